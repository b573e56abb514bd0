/-
  Chapter 5: contracts of New, Of. Conditions: what they are handed lies in memory.
-/
import Derived.Test.YthcbceaeobnmgaaDoorBm2
import Derived.Test.YthcbceaeobnmgaaDoorBoolv
import Derived.Deep.OwnRows
namespace Go.Proofs.YthcbceaeobnmgaaDoor
open Go.RowKit
theorem Tryd.infoU64 : (Tryd.prog.info? 50).map (fun i => (i.zero, i.size, i.bytes)) = some (some (.int .u64 0), 1, 8) := by kernel_rfl
theorem made_words (n : Nat) : madeCells #[Value.int .u64 0] n = (wordVals (List.replicate n 0)).toArray := by
  apply Array.ext
  · rw [size_madeCells]; simp [wordVals]
  · intro i h1 h2
    rw [size_madeCells] at h1
    simp [madeCells, Nat.mod_one, wordVals]
theorem words_zero (n : Nat) : WordsOk (List.replicate ((n + 63) / 64) 0) (List.replicate n false) := by
  refine ⟨by simp, fun j hj => ⟨by simp, fun b hb => ?_⟩⟩
  simp [List.getElem?_replicate]
  split <;> rfl
/-- A map that a call has made. -/
def NewBm (w w' : World) (e : Ending) (bs : List Bool) : Prop := ∃ g gw ws, e = .returned (.pointer (some ⟨g, 0, none⟩)) ∧ Bm w' g gw ws bs ∧ w.heap.size ≤ g ∧ w.heap.size ≤ gw ∧ Below w.heap.size w w'
set_option maxHeartbeats 1000000 in
theorem new_any (n : Nat) (hn : n ≤ 4096) (w : World) : Calls Tryd.prog 42 #[.int .i64 n] w fun e w' => NewBm w w' e (List.replicate n false) := by
  have hmk : ∀ w, (Instr.makeSlice 71 (.int .i64 (((n + 63) / 64 : Nat) : Int)) (.int .i64 (((n + 63) / 64 : Nat) : Int))).run Tryd.prog w = .ok (.slice (some ⟨w.heap.size, 0, none⟩) ((n + 63) / 64) ((n + 63) / 64)) (w.alloc (.cells (madeCells #[.int .u64 0] ((n + 63) / 64)) 50)) :=
    run_make_row' _ _ _ _ Tryd.underlying71 Tryd.infoU64 rfl _ _ ((n + 63) / 64) (by omega) (by omega)
  have he : ((n : Int) + 64 - 1) / 64 = (((n + 63) / 64 : Nat) : Int) := by omega
  have hmk2 : ∀ w, (Instr.makeSlice 71 (.int .i64 (((n : Int) + 64 - 1) / 64)) (.int .i64 (((n : Int) + 64 - 1) / 64))).run Tryd.prog w = .ok (.slice (some ⟨w.heap.size, 0, none⟩) ((n + 63) / 64) ((n + 63) / 64)) (w.alloc (.cells (madeCells #[.int .u64 0] ((n + 63) / 64)) 50)) := by rw [he]; exact hmk
  clear hmk he
  have hd : decide ((n : Int) < 0) = false := by simp
  go_enter Tryd.func42, Tryd.ntmps42
  go_wp2_with fail
  go_ret
  have hr := (Blk.new w 50 (madeCells #[.int .u64 0] ((n + 63) / 64))).alloc (.cells #[.int .i64 n, .slice (some ⟨w.heap.size, 0, none⟩) ((n + 63) / 64) ((n + 63) / 64)] 73)
  have hb := Blk.new (w.alloc (.cells (madeCells #[.int .u64 0] ((n + 63) / 64)) 50)) 73 #[.int .i64 n, .slice (some ⟨w.heap.size, 0, none⟩) ((n + 63) / 64) ((n + 63) / 64)]
  rw [World.size_alloc] at hb
  exact ⟨_, _, List.replicate ((n + 63) / 64) 0, rfl, ⟨words_zero n, by simpa using hb, (by rw [← made_words]; exact hr), by omega, by simpa using hn⟩, by omega, Nat.le_refl _, ((Below.refl _ _).alloc (Nat.le_refl _) _).alloc (by simp) _⟩
theorem new_bad (n : Int) (hn : n < 0 ∨ 4096 < n) (w : World) : Calls Tryd.prog 42 #[.int .i64 n] w fun e w' => e = .returned (.pointer none) ∧ w = w' := by
  rcases hn with hn | hn
  · go_enter Tryd.func42, Tryd.ntmps42
    go_wp2_with fail
    go_ret
    exact ⟨rfl, rfl⟩
  · have hd : decide (n < 0) = false := by simp; omega
    go_enter Tryd.func42, Tryd.ntmps42
    go_wp2_with fail
    go_ret
    exact ⟨rfl, rfl⟩
/-- The first k truths of l, false behind. -/
def upto (l : List Bool) (k : Nat) : List Bool := l.take k ++ List.replicate (l.length - k) false
theorem upto_len (l : List Bool) (k : Nat) (h : k ≤ l.length) : (upto l k).length = l.length := by simp [upto]; omega
theorem upto_all (l : List Bool) : upto l l.length = l := by simp [upto]
theorem upto_zero (l : List Bool) : upto l 0 = List.replicate l.length false := by simp [upto]
theorem upto_succ (l : List Bool) (k : Nat) (h : k < l.length) : upto l (k + 1) = if l[k] = true then (upto l k).set k true else upto l k := by
  have e : l.length - k = (l.length - (k + 1)) + 1 := by omega
  have hl : (l.take k).length = k := by simp; omega
  have h1 : upto l k = l.take k ++ (false :: List.replicate (l.length - (k + 1)) false) := by unfold upto; rw [e, List.replicate_succ]
  have h2 : upto l (k + 1) = l.take k ++ (l[k] :: List.replicate (l.length - (k + 1)) false) := by unfold upto; rw [List.take_succ_eq_append_getElem h, List.append_assoc]; rfl
  rw [h1, h2]
  split
  · rename_i hh
    rw [List.set_append_right _ _ (by omega), hl, Nat.sub_self, hh]
    rfl
  · rename_i hh
    rw [Bool.not_eq_true] at hh
    rw [hh]
theorem Turned.turn {w w' : World} {g gw : Nat} {bs bs2 : List Bool} (h : Turned w w' g gw bs) (e : bs = bs2) : Turned w w' g gw bs2 := e ▸ h
set_option maxHeartbeats 2000000 in
theorem bmOf_any (A : Option Addr) (n c : Nat) (l : List Bool) (w : World) (hl : l.length = n) (hn : n ≤ 4096) (hr : Row w w.heap.size A (boolVals l)) : Calls Tryd.prog 22 #[.slice A n c] w fun e w' => NewBm w w' e l := by
  have HL := Lib.hid hl
  have HR := Lib.hid hr
  clear hl hr
  go_enter Tryd.func22, Tryd.ntmps22
  go_wp2_with fail
  refine (new_any n hn w).mono ?_
  rintro e w1 ⟨g, gw, ws, rfl, hM, hg, hgw, hb⟩
  have HM := Lib.hid hM
  have HB := Lib.hid hb
  clear hM hb
  go_wp2_with fail
  go_loopw [13] (fun vi wr => ∃ (k : Nat) (ws : List Nat), k ≤ n ∧ vi = .int .i64 k ∧ Bm wr g gw ws (upto l k) ∧ Below w.heap.size w wr) (fun vi _ => n - (intOf vi).toNat)
  case atStart => exact ⟨0, ws, by omega, rfl, by rw [upto_zero, HL.out]; exact HM.out, HB.out⟩
  case round =>
    obtain ⟨k, ws2, hk, rfl, hM, hb⟩ := hrel
    clear HM HB
    have HM := Lib.hid hM
    have HB := Lib.hid hb
    clear hM hb
    by_cases hlt : k < n
    · have hkl : k < l.length := by rw [HL.out]; exact hlt
      obtain ⟨b, off, e, hbb, hc⟩ := (HR.out.below HB.out).at_ (k := k) (by simp [boolVals]; exact hkl)
      have hc0 := hc k _ (boolVals_at l k hkl)
      have HS := Lib.hid (upto_succ l k hkl)
      subst e
      generalize l[k] = x at *
      clear hc
      cases x
      · go_wp2_with fail
        go_roundw
        case rel => exact ⟨k + 1, ws2, by omega, by go_num, by rw [HS.out]; exact HM.out, HB.out⟩
        case measure => simp [intOf]; omega
      · go_wp2_with fail
        refine (set_any _ HM.out).mono ?_
        rintro e w3 ⟨rfl, ws3, hM3, hg3, _⟩
        have et : turnL (upto l k) k true = (upto l k).set k true := by
          unfold turnL
          rw [if_pos ⟨by omega, by rw [upto_len l k (by omega)]; omega⟩]
          simp
        rw [et] at hM3
        have HM3 := Lib.hid hM3
        have HB3 := Lib.hid (HB.out.grown hg3 HB.out.size (fun q hq => by injection hq with hq; omega))
        clear et hM3 hg3
        go_wp2_with fail
        go_roundw
        case rel => exact ⟨k + 1, ws3, by omega, by go_num, by rw [HS.out]; exact HM3.out, HB3.out⟩
        case measure => simp [intOf]; omega
    · have hkn : k = n := by omega
      subst hkn
      go_wp2_with fail
      go_ret
      refine ⟨g, gw, ws2, rfl, ?_, hg, hgw, HB.out⟩
      have := HM.out
      rw [← HL.out, upto_all] at this
      exact this
end Go.Proofs.YthcbceaeobnmgaaDoor

/-
  Chapter 5: contract of Bools. Condition: the map lies in memory.
-/
import Derived.Test.YthcbceaeobnmgaaDoorBm3
import Derived.Test.YthcbceaeobnmgaaDoorApp
namespace Go.Proofs.YthcbceaeobnmgaaDoor
open Go.RowKit
theorem Tryd.infoBool : (Tryd.prog.info? 4).map (fun i => (i.zero, i.size, i.bytes)) = some (some (.bool false), 1, 1) := by kernel_rfl
section
variable {w w' : World} {g gw : Nat} {ws : List Nat} {bs : List Bool}
theorem Bm.below {B : Nat} (M : Bm w g gw ws bs) (hb : Below B w w') (h1 : g < B) (h2 : gw < B) : Bm w' g gw ws bs := ⟨M.ok, M.blk.below hb h1, M.row.below hb h2, M.ne, M.small⟩
theorem Bm.step (M : Bm w g gw ws bs) (hb : Below w.heap.size w w') : Bm w' g gw ws bs := M.below hb M.blk.lt M.row.lt
end
theorem boolVals_succ (bs : List Bool) (k : Nat) (h : k < bs.length) : boolVals (bs.take (k + 1)) = boolVals (bs.take k) ++ [.bool bs[k]] := by
  rw [List.take_succ_eq_append_getElem h]
  unfold boolVals
  rw [List.map_append]
  rfl
theorem onebool (w : World) (x : Bool) (t : TypeId) : ∀ j u, [Value.bool x][j]? = some u → (w.alloc (.cells #[.bool x] t)).cell? ((⟨w.heap.size, 0, none⟩ : Addr).add j) = some u := by
  intro j u hu
  match j, hu with
  | 0, hu => simp at hu; rw [← hu]; simp [go_sem]
set_option maxHeartbeats 2000000 in
theorem bools_any {w : World} {g gw : Nat} {ws : List Nat} {bs : List Bool} (M : Bm w g gw ws bs) : Calls Tryd.prog 54 #[.pointer (some ⟨g, 0, none⟩)] w fun e w' => ∃ A c, e = .returned (.slice A bs.length c) ∧ Own w' w.heap.size 4 1 A bs.length c (boolVals bs) ∧ Below w.heap.size w w' := by
  obtain ⟨i0, hi, hz0, hz1, hz2⟩ := info_parts Tryd.infoBool
  have HI := Lib.hid hi
  have HZ0 := Lib.hid hz0
  have HZ1 := Lib.hid hz1
  have HZ2 := Lib.hid hz2
  have HM := Lib.hid M
  have hsm := M.small
  generalize hn : bs.length = n at *
  have HN := Lib.hid hn
  clear hi hz0 hz1 hz2 M hn
  go_enter Tryd.func54, Tryd.ntmps54
  go_wp2_with (go_at_call 53; have hl := len_any HM.out; rw [HN.out] at hl; refine hl.mono ?_; rintro e w1 ⟨rfl, rfl⟩; clear hl)
  go_loopw [2, 9] (fun v2 vi wr => ∃ (k : Nat) (A : Option Addr) (c : Nat), k ≤ n ∧ vi = .int .i64 k ∧ v2 = .slice A k c ∧ Own wr w.heap.size 4 1 A k c (boolVals (bs.take k)) ∧ Below w.heap.size w wr) (fun _ vi _ => n - (intOf vi).toNat)
  case atStart => exact ⟨0, none, 0, by omega, rfl, rfl, Own.nil _ _ _ _, Below.refl _ _⟩
  case round =>
    obtain ⟨k, A, c, hk, rfl, rfl, hO, hB⟩ := hrel
    have HO := Lib.hid hO
    have HB := Lib.hid hB
    have hsz : w.heap.size ≤ wr.heap.size := hB.size
    clear hO hB
    by_cases hlt : k < n
    · have hkb : k < bs.length := by rw [HN.out]; exact hlt
      have hh : hasB bs k = bs[k] := by simp [hasB, hkb]
      have HH := Lib.hid hh
      have c1 : Hid (k + 1 ≤ maxLen) := by unfold maxLen; show _ ≤ _; omega
      clear hh
      go_wp2_with fail
      refine (has_any _ (HM.out.step HB.out)).mono ?_
      rintro e w1 ⟨rfl, rfl⟩
      rw [HH.out]
      go_wp2_with (at_builtin; go_must (refine wpList_append_1 _ rfl (.tmp 12) (.tmp 16) 29 rfl w.heap.size 4 i0 _ 1 1 Tryd.underlying29 HI.out HZ0.out HZ1.out HZ2.out rfl (by decide) _ _ _ _ rfl (HO.out.alloc _) ⟨wr.heap.size, 0, none⟩ 1 [.bool _] rfl rfl (onebool _ _ _) (by simp [Value.oneCell']) c1.out (by omega) (by rw [World.size_alloc]; omega) ?_); intro A' c' w5 hown1 hgrow1 hat1)
      go_roundw
      case rel => exact ⟨k + 1, A', c', by omega, by go_num, rfl, by rw [boolVals_succ bs k hkb]; exact hown1, below_append HB.out HO.out (Nat.le_refl _) hsz hgrow1⟩
      case measure => simp [intOf]; omega
    · have hkn : k = n := by omega
      subst hkn
      go_wp2_with fail
      go_ret
      refine ⟨A, c, rfl, ?_, HB.out⟩
      have := HO.out
      rw [List.take_of_length_le (by rw [HN.out]; exact Nat.le_refl _)] at this
      exact this
theorem bools_nil (w : World) : Calls Tryd.prog 54 #[.pointer none] w fun e w' => e = .returned (.slice none 0 0) ∧ w = w' := by
  go_enter Tryd.func54, Tryd.ntmps54
  go_wp2_with (go_at_call 53; refine (len_nil _).mono ?_; rintro e w1 ⟨rfl, rfl⟩)
  go_loop [2, 9] (fun v2 vi => v2 = .slice none 0 0 ∧ vi = .int .i64 0) (fun _ _ => 0)
  case atStart => exact ⟨rfl, rfl⟩
  case round =>
    obtain ⟨rfl, rfl⟩ := hrel
    go_wp2_with fail
    go_ret
    exact ⟨rfl, rfl⟩
end Go.Proofs.YthcbceaeobnmgaaDoor

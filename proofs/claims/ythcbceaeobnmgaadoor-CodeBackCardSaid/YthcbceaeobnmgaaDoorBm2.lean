/-
  Chapter 5: contracts of Set, Clear, New. Condition: the map lies in memory.
-/
import Derived.Test.YthcbceaeobnmgaaDoorBm
import Derived.Deep.OwnRows
namespace Go.Proofs.YthcbceaeobnmgaaDoor
open Go.RowKit
/-- One place turned. -/
def turnL (bs : List Bool) (i : Int) (to : Bool) : List Bool := if 0 ≤ i ∧ i < bs.length then bs.set i.toNat to else bs
theorem turnL_len (bs : List Bool) (i : Int) (to : Bool) : (turnL bs i to).length = bs.length := by unfold turnL; split <;> simp
theorem getD_set_ (bs : List Bool) (k m : Nat) (to : Bool) (hk : k < bs.length) : (bs.set k to).getD m false = if m = k then to else bs.getD m false := by
  by_cases h : m = k
  · subst h; simp [hk]
  · have : k ≠ m := fun e => h e.symm
    simp [h, this]
/-- A word of the words turned at one bit. -/
theorem words_turn {ws : List Nat} {bs : List Bool} {k : Nat} (to : Bool) (h : WordsOk ws bs) (hk : k < bs.length) (y : Nat) (hy : y < 18446744073709551616) (hb : ∀ b, b < 64 → y.testBit b = if b = k % 64 then to else bs.getD (64 * (k / 64) + b) false) : WordsOk (ws.set (k / 64) y) (bs.set k to) := by
  refine ⟨by simp [h.1], fun j hj => ?_⟩
  rw [List.length_set] at hj
  rw [List.getElem_set]
  by_cases hjk : k / 64 = j
  · subst hjk
    rw [if_pos rfl]
    refine ⟨hy, fun b hb' => ?_⟩
    rw [hb b hb', getD_set_ bs k _ to hk]
    by_cases hbk : b = k % 64
    · rw [if_pos hbk, if_pos (by omega)]
    · rw [if_neg hbk, if_neg (by omega)]
  · rw [if_neg hjk]
    refine ⟨(h.2 j hj).1, fun b hb' => ?_⟩
    rw [(h.2 j hj).2 b hb', getD_set_ bs k _ to hk, if_neg (by omega)]
theorem pow_wrap (b : Nat) (hb : b < 64) : IntKind.u64.wrap (2 ^ b) = ((2 ^ b : Nat) : Int) ∧ 2 ^ b < 18446744073709551616 := by
  have h : 2 ^ b < 2 ^ 64 := Nat.pow_lt_pow_right (by omega) hb
  have e : (2 : Nat) ^ 64 = 18446744073709551616 := by decide
  rw [e] at h
  refine ⟨?_, h⟩
  rw [IntKind.wrap_u64]
  have e2 : (2 : Int) ^ b = ((2 ^ b : Nat) : Int) := by simp
  rw [e2]
  generalize 2 ^ b = y at *
  exact Int.emod_eq_of_lt (by omega) (by omega)
theorem or_bit (x b : Nat) (hx : x < 18446744073709551616) (hb : b < 64) : bits .or .u64 (x : Int) (IntKind.u64.wrap (2 ^ b)) = ((x ||| 2 ^ b : Nat) : Int) ∧ x ||| 2 ^ b < 18446744073709551616 ∧ ∀ c, (x ||| 2 ^ b).testBit c = if c = b then true else x.testBit c := by
  obtain ⟨h1, h2⟩ := pow_wrap b hb
  refine ⟨by rw [h1, bits_or_u64_nat _ _ hx h2], Nat.or_lt_two_pow (n := 64) hx h2, fun c => ?_⟩
  rw [Nat.testBit_or, Nat.testBit_two_pow]
  by_cases h : c = b
  · subst h; simp
  · have : ¬ b = c := fun e => h e.symm
    simp [h, this]
/-- A map was turned: it holds bs' now, and nothing else is other than it was. -/
def Turned (w w' : World) (g gw : Nat) (bs' : List Bool) : Prop := ∃ ws', Bm w' g gw ws' bs' ∧ w.grownBy w' (some gw) ∧ w'.heap.size = w.heap.size
theorem Turned.same {w : World} {g gw : Nat} {ws : List Nat} {bs : List Bool} (M : Bm w g gw ws bs) : Turned w w g gw bs := ⟨ws, M, ⟨rfl, rfl, rfl, Nat.le_refl _, fun _ _ _ => rfl⟩, rfl⟩
theorem turned_of {w : World} {g gw : Nat} {ws : List Nat} {bs : List Bool} {k y : Nat} (to : Bool) (M : Bm w g gw ws bs) (hk : k < bs.length) (hy : y < 18446744073709551616) (hb : ∀ b, b < 64 → y.testBit b = if b = k % 64 then to else bs.getD (64 * (k / 64) + b) false) :
    Turned w (w.setCell ⟨gw, k / 64, none⟩ (.int .u64 (y : Int))).drew g gw (bs.set k to) := by
  refine ⟨ws.set (k / 64) y, ⟨words_turn to M.ok hk y hy hb, ?_, ?_, M.ne, by simpa using M.small⟩, ?_, by simp [World.setCell]⟩
  · have := (M.blk.far (p := ⟨gw, k / 64, none⟩) M.ne (.int .u64 (y : Int))).drew
    simpa using this
  · have := (M.row.set_ (k / 64) (.int .u64 (y : Int))).drew
    rw [List.setIfInBounds_toArray] at this
    simpa [wordVals, List.map_set] using this
  · have h := grown_set w ⟨gw, k / 64, none⟩ (.int .u64 (y : Int))
    exact ⟨h.os, h.tape, h.output, h.size, h.block⟩
set_option maxHeartbeats 1000000 in
theorem set_yes {w : World} {g gw : Nat} {ws : List Nat} {bs : List Bool} (k : Nat) (hk : k < bs.length) (hb : bs.getD k false = false) (M : Bm w g gw ws bs) : Calls Tryd.prog 43 #[.pointer (some ⟨g, 0, none⟩), .int .i64 k] w fun e w' => e = .returned (.bool true) ∧ Turned w w' g gw (bs.set k true) := by
  have HM := Lib.hid M
  have hsm := M.small
  have h1 := M.blk.cell 1
  simp at h1
  have hwl : ws.length = (bs.length + 63) / 64 := M.ok.1
  have hq : k / 64 < ws.length := by omega
  have hc : w.cell? ⟨gw, k / 64, none⟩ = some (.int .u64 (ws[k / 64] : Nat)) := by
    rw [M.row.cell]; simp [wordVals, hq]
  have hfr := M.row.frozen (k / 64)
  obtain ⟨hlt, hbit⟩ := M.ok.2 (k / 64) hq
  have hx : ∃ x : Nat, Hid (x = ws[k / 64]) := ⟨_, rfl⟩
  obtain ⟨x, HX⟩ := hx
  rw [← HX.out] at hc hlt hbit
  have HB := Lib.hid hbit
  have hnn : ∃ nw : Nat, Hid (nw = ws.length) := ⟨_, rfl⟩
  obtain ⟨nw, HNN⟩ := hnn
  have hnb : ∃ n : Nat, Hid (n = bs.length) := ⟨_, rfl⟩
  obtain ⟨n, HNB⟩ := hnb
  rw [← HNN.out] at h1 hq hwl
  rw [← HNB.out] at hsm hk hwl
  have HWL := Lib.hid hwl
  have hhas : hasB bs k = false := by simp [hasB]; simpa using hb
  have HH := Lib.hid hhas
  clear M hbit hwl hhas hb
  have F0 : ∀ w', Cel2 ⟨g, 1, none⟩ ⟨gw, k / 64, none⟩ (.slice (some ⟨gw, 0, none⟩) nw nw) (.int .u64 x) w' → w'.cell? ⟨g, 1, none⟩ = some (.slice (some ⟨gw, 0, none⟩) nw nw) := fun _ h => h.1
  have F1 : ∀ w', Cel2 ⟨g, 1, none⟩ ⟨gw, k / 64, none⟩ (.slice (some ⟨gw, 0, none⟩) nw nw) (.int .u64 x) w' → w'.cell? ⟨gw, k / 64, none⟩ = some (.int .u64 x) := fun _ h => h.2
  go_enter Tryd.func43, Tryd.ntmps43
  go_wp2_with (first | (go_at_call 53; have hl := len_any HM.out; rw [← HNB.out] at hl; refine hl.mono ?_; rintro e w1 ⟨rfl, rfl⟩; clear hl) | (go_at_call 57; refine (has_any _ HM.out).mono ?_; rintro e w1 ⟨rfl, rfl⟩; rw [HH.out]))
  refine region_mixE (Cel2 ⟨g, 1, none⟩ ⟨gw, k / 64, none⟩ (.slice (some ⟨gw, 0, none⟩) nw nw) (.int .u64 x)) 13 [] (by kernel_rfl) (by kernel_rfl) (by kernel_rfl) (fun _ _ d _ _ h => by cases d <;> exact h) ⟨h1, hc⟩ ?_
  (try simp only [Act.put, List.setIfInBounds_toArray, List.set_cons_zero, List.set_cons_succ]); refine mixE_end ?_; simp only [List.take_succ_cons, List.take_zero, List.drop_succ_cons, List.drop_zero]; (repeat (first | go_big_quiet_skip | (go_big_quiet_want; first | (go_big_quiet_op; first | go_big_quiet_on | ((first | with_reducible refine ⟨_, fun _ _ => rfl, ?_⟩); go_big_quiet_on)) | (simp (contextual := true) [go_sem, F0, F1]; with_reducible refine ⟨_, fun _ _ => rfl, ?_⟩; go_big_quiet_on)))); refine wpQuiet_nil ?_
  clear F0 F1
  go_wp2_with fail
  go_ret
  refine ⟨rfl, ?_⟩
  obtain ⟨e1, e2, e3⟩ := or_bit x (k % 64) hlt (by omega)
  rw [e1]
  refine turned_of true HM.out (by rw [← HNB.out]; exact hk) e2 fun b hb => ?_
  rw [e3 b, HB.out b hb]
theorem set_any {w : World} {g gw : Nat} {ws : List Nat} {bs : List Bool} (i : Int) (M : Bm w g gw ws bs) : Calls Tryd.prog 43 #[.pointer (some ⟨g, 0, none⟩), .int .i64 i] w fun e w' => e = .returned (.bool (decide (0 ≤ i ∧ i < bs.length) && !hasB bs i)) ∧ Turned w w' g gw (turnL bs i true) := by
  have HM := Lib.hid M
  by_cases hi : 0 ≤ i ∧ i < bs.length
  · obtain ⟨hi0, hi1⟩ := hi
    obtain ⟨k, rfl⟩ := Int.eq_ofNat_of_zero_le hi0
    have hk : k < bs.length := by omega
    have et : turnL bs k true = bs.set k true := by unfold turnL; rw [if_pos ⟨by omega, by omega⟩]; simp
    cases hb : bs.getD k false
    · have e : (decide (0 ≤ (k : Int) ∧ (k : Int) < bs.length) && !hasB bs k) = true := by
        have : hasB bs k = false := by simp [hasB]; simpa using hb
        rw [this]; simp; omega
      rw [e, et]
      exact set_yes k hk hb M
    · have hh : hasB bs k = true := by simp [hasB]; simpa using hb
      have e : (decide (0 ≤ (k : Int) ∧ (k : Int) < bs.length) && !hasB bs k) = false := by rw [hh]; simp
      have es : bs.set k true = bs := by
        apply List.ext_getElem?
        intro m
        rw [List.getElem?_set]
        by_cases h : k = m
        · subst h
          rw [if_pos rfl, if_pos hk]
          rw [List.getD_eq_getElem?_getD, List.getElem?_eq_getElem hk] at hb
          rw [List.getElem?_eq_getElem hk]
          simpa using hb.symm
        · rw [if_neg h]
      rw [e, et, es]
      have HH := Lib.hid hh
      have hd : decide ((bs.length : Int) ≤ k) = false := by simp; omega
      clear e et es hb hh M hi0 hi1
      go_enter Tryd.func43, Tryd.ntmps43
      go_wp2_with (first | (go_at_call 53; refine (len_any HM.out).mono ?_; rintro e w1 ⟨rfl, rfl⟩) | (go_at_call 57; refine (has_any _ HM.out).mono ?_; rintro e w1 ⟨rfl, rfl⟩; rw [HH.out]))
      go_ret
      exact ⟨rfl, Turned.same HM.out⟩
  · have e : (decide (0 ≤ i ∧ i < (bs.length : Int)) && !hasB bs i) = false := by simp; omega
    have et : turnL bs i true = bs := by unfold turnL; rw [if_neg hi]
    rw [e, et]
    clear e et M
    by_cases h0 : 0 ≤ i
    · have hd0 : decide (i < 0) = false := by simp; omega
      have hd : (bs.length : Int) ≤ i := by omega
      go_enter Tryd.func43, Tryd.ntmps43
      go_wp2_with (first | (go_at_call 53; refine (len_any HM.out).mono ?_; rintro e w1 ⟨rfl, rfl⟩))
      go_ret
      exact ⟨rfl, Turned.same HM.out⟩
    · have hd0 : i < 0 := by omega
      go_enter Tryd.func43, Tryd.ntmps43
      go_wp2_with fail
      go_ret
      exact ⟨rfl, Turned.same HM.out⟩
end Go.Proofs.YthcbceaeobnmgaaDoor

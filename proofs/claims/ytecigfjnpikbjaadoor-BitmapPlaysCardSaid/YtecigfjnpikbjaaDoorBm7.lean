/-
  Chapter 5: contract of Clear. Condition: the map lies in memory.
-/
import Derived.Test.YtecigfjnpikbjaaDoorBm6
import Derived.Laws.BitsAllLaws
namespace Go.Proofs.YtecigfjnpikbjaaDoor
open Go.RowKit
theorem not_bit (b c : Nat) (hb : b < 64) : (18446744073709551615 - 2 ^ b).testBit c = (decide (c < 64) && !decide (b = c)) := by
  have h := Nat.testBit_two_pow_sub_succ (x := 2 ^ b) (n := 64) (Nat.pow_lt_pow_right (by omega) hb) c
  rw [Nat.testBit_two_pow] at h
  rw [← h]
  have e : (2 : Nat) ^ 64 - (2 ^ b + 1) = 18446744073709551615 - 2 ^ b := by omega
  rw [e]
theorem and_not (x b : Nat) (hx : x < 18446744073709551616) (hb : b < 64) : bits .andNot .u64 (x : Int) (IntKind.u64.wrap (2 ^ b)) = ((x &&& (18446744073709551615 - 2 ^ b) : Nat) : Int) ∧ x &&& (18446744073709551615 - 2 ^ b) < 18446744073709551616 ∧ ∀ c, c < 64 → (x &&& (18446744073709551615 - 2 ^ b)).testBit c = if c = b then false else x.testBit c := by
  obtain ⟨h1, h2⟩ := pow_wrap b hb
  refine ⟨by rw [h1, u64_andNot_nat _ _ hx h2], Nat.lt_of_le_of_lt Nat.and_le_left hx, fun c hc => ?_⟩
  rw [Nat.testBit_and, not_bit b c hb]
  by_cases h : c = b
  · subst h; simp
  · have : ¬ b = c := fun e => h e.symm
    simp [h, this, hc]
set_option maxHeartbeats 1000000 in
theorem clear_yes {w : World} {g gw : Nat} {ws : List Nat} {bs : List Bool} (k : Nat) (hk : k < bs.length) (hb : bs.getD k false = true) (M : Bm w g gw ws bs) : Calls Tryd.prog 16 #[.pointer (some ⟨g, 0, none⟩), .int .i64 k] w fun e w' => e = .returned (.bool true) ∧ Turned w w' g gw (bs.set k false) := by
  have HM := Lib.hid M
  have hsm := M.small
  have h1 := M.blk.cell 1
  simp at h1
  have hwl : ws.length = (bs.length + 63) / 64 := M.ok.1
  have hq : k / 64 < ws.length := by omega
  have hc : w.cell? ⟨gw, k / 64, none⟩ = some (.int .u64 (ws[k / 64] : Nat)) := by
    rw [M.row.cell]; simp [wordVals, hq]
  have hfr := M.row.frozen (k / 64)
  obtain ⟨hlt, hbit⟩ := M.ok.2 (k / 64) hq
  have hx : ∃ x : Nat, Hid (x = ws[k / 64]) := ⟨_, rfl⟩
  obtain ⟨x, HX⟩ := hx
  rw [← HX.out] at hc hlt hbit
  have HB := Lib.hid hbit
  have hnn : ∃ nw : Nat, Hid (nw = ws.length) := ⟨_, rfl⟩
  obtain ⟨nw, HNN⟩ := hnn
  have hnb : ∃ n : Nat, Hid (n = bs.length) := ⟨_, rfl⟩
  obtain ⟨n, HNB⟩ := hnb
  rw [← HNN.out] at h1 hq hwl
  rw [← HNB.out] at hsm hk hwl
  have HWL := Lib.hid hwl
  have hhas : hasB bs k = true := by simp [hasB]; simpa using hb
  have HH := Lib.hid hhas
  clear M hbit hwl hhas hb
  have F0 : ∀ w', Cel2 ⟨g, 1, none⟩ ⟨gw, k / 64, none⟩ (.slice (some ⟨gw, 0, none⟩) nw nw) (.int .u64 x) w' → w'.cell? ⟨g, 1, none⟩ = some (.slice (some ⟨gw, 0, none⟩) nw nw) := fun _ h => h.1
  have F1 : ∀ w', Cel2 ⟨g, 1, none⟩ ⟨gw, k / 64, none⟩ (.slice (some ⟨gw, 0, none⟩) nw nw) (.int .u64 x) w' → w'.cell? ⟨gw, k / 64, none⟩ = some (.int .u64 x) := fun _ h => h.2
  go_enter Tryd.func16, Tryd.ntmps16
  go_wp2_with (first | (go_at_call 17; refine (has_any _ HM.out).mono ?_; rintro e w1 ⟨rfl, rfl⟩; rw [HH.out]))
  refine region_mixE (Cel2 ⟨g, 1, none⟩ ⟨gw, k / 64, none⟩ (.slice (some ⟨gw, 0, none⟩) nw nw) (.int .u64 x)) 13 [] (by kernel_rfl) (by kernel_rfl) (by kernel_rfl) (fun _ _ d _ _ h => by cases d <;> exact h) ⟨h1, hc⟩ ?_
  (try simp only [Act.put, List.setIfInBounds_toArray, List.set_cons_zero, List.set_cons_succ]); refine mixE_end ?_; simp only [List.take_succ_cons, List.take_zero, List.drop_succ_cons, List.drop_zero]; (repeat (first | go_big_quiet_skip | (go_big_quiet_want; first | (go_big_quiet_op; first | go_big_quiet_on | ((first | with_reducible refine ⟨_, fun _ _ => rfl, ?_⟩); go_big_quiet_on)) | (simp (contextual := true) [go_sem, F0, F1]; with_reducible refine ⟨_, fun _ _ => rfl, ?_⟩; go_big_quiet_on)))); refine wpQuiet_nil ?_
  clear F0 F1
  go_wp2_with fail
  go_ret
  refine ⟨rfl, ?_⟩
  obtain ⟨e1, e2, e3⟩ := and_not x (k % 64) hlt (by omega)
  rw [e1]
  refine turned_of false HM.out (by rw [← HNB.out]; exact hk) e2 fun b hb => ?_
  rw [e3 b hb, HB.out b hb]
theorem hasB_out (bs : List Bool) (i : Int) (hi : ¬ (0 ≤ i ∧ i < bs.length)) : hasB bs i = false := by
  unfold hasB
  by_cases h0 : 0 ≤ i
  · have : bs.length ≤ i.toNat := by omega
    simp [this]
  · simp [h0]
theorem set_same (bs : List Bool) (k : Nat) (to : Bool) (hk : k < bs.length) (hb : bs.getD k false = to) : bs.set k to = bs := by
  apply List.ext_getElem?
  intro m
  rw [List.getElem?_set]
  by_cases h : k = m
  · subst h
    rw [if_pos rfl, if_pos hk]
    rw [List.getD_eq_getElem?_getD, List.getElem?_eq_getElem hk] at hb
    rw [List.getElem?_eq_getElem hk]
    simpa using hb.symm
  · rw [if_neg h]
theorem clear_any {w : World} {g gw : Nat} {ws : List Nat} {bs : List Bool} (i : Int) (M : Bm w g gw ws bs) : Calls Tryd.prog 16 #[.pointer (some ⟨g, 0, none⟩), .int .i64 i] w fun e w' => e = .returned (.bool (hasB bs i)) ∧ Turned w w' g gw (turnL bs i false) := by
  have HM := Lib.hid M
  cases hh : hasB bs i with
  | true =>
    have hi : 0 ≤ i ∧ i < bs.length := by
      refine Classical.byContradiction fun h => ?_
      rw [hasB_out bs i h] at hh
      cases hh
    obtain ⟨hi0, hi1⟩ := hi
    obtain ⟨k, rfl⟩ := Int.eq_ofNat_of_zero_le hi0
    have hk : k < bs.length := by omega
    have et : turnL bs k false = bs.set k false := by unfold turnL; rw [if_pos ⟨by omega, by omega⟩]; simp
    rw [et]
    exact clear_yes k hk (by simpa [hasB] using hh) M
  | false =>
    have et : turnL bs i false = bs := by
      unfold turnL
      split
      · rename_i h
        refine set_same bs i.toNat false (by omega) ?_
        simpa [hasB, h.1] using hh
      · rfl
    rw [et]
    have HH := Lib.hid hh
    clear et hh M
    go_enter Tryd.func16, Tryd.ntmps16
    go_wp2_with (first | (go_at_call 17; refine (has_any _ HM.out).mono ?_; rintro e w1 ⟨rfl, rfl⟩; rw [HH.out]))
    go_ret
    exact ⟨rfl, Turned.same HM.out⟩
end Go.Proofs.YtecigfjnpikbjaaDoor

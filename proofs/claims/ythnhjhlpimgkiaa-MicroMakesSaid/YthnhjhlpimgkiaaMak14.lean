/-
  The law MicroMakes. Condition: the numbers are ints.
-/
import Derived.Test.YthnhjhlpimgkiaaAlv14
namespace Go.Proofs.Ythnhjhlpimgkiaa
open Go.RowKit
/-- Cells that New gave, and how many there are. -/
def NewIs (w : World) (c : Option Addr) (L : Nat) : Prop := (c = none ∧ L = 0) ∨ ∃ gc gl n, c = some ⟨gc, 0, none⟩ ∧ CellsIs w gc gl n [] (List.replicate L 0) 0
theorem NewIs.step {w w' : World} {c : Option Addr} {L : Nat} (h : NewIs w c L) (hb : Below w.heap.size w w') : NewIs w' c L := by
  rcases h with h | ⟨gc, gl, n, h1, h2⟩
  · exact .inl h
  · exact .inr ⟨gc, gl, n, h1, h2.below hb⟩
theorem NewIs.len {w : World} {c : Option Addr} {L : Nat} (h : NewIs w c L) : Calls Try.prog 8 #[.pointer c] w fun e w' => e = .returned (.int .i64 L) ∧ w = w' := by
  rcases h with ⟨rfl, rfl⟩ | ⟨gc, gl, n, rfl, h2⟩
  · exact clen_nil w
  · simpa using clen_any h2
theorem NewIs.small {w : World} {c : Option Addr} {L : Nat} (h : NewIs w c L) : L ≤ 4096 := by
  rcases h with ⟨rfl, rfl⟩ | ⟨gc, gl, n, rfl, h2⟩
  · omega
  · simpa using h2.size
theorem newIs_any (n : Int) (w : World) : Calls Try.prog 6 #[.int .i64 n] w fun e w' => ∃ c L, e = .returned (.pointer c) ∧ NewIs w' c L ∧ Below w.heap.size w w' := by
  by_cases h : n < 0 ∨ 4096 < n
  · refine (cnew_bad n h w).mono ?_
    rintro e w' ⟨rfl, rfl⟩
    exact ⟨none, 0, rfl, .inl ⟨rfl, rfl⟩, Below.refl _ _⟩
  · obtain ⟨k, rfl⟩ := Int.eq_ofNat_of_zero_le (show 0 ≤ n by omega)
    refine (cnew_any k (by omega) w).mono ?_
    rintro e w' ⟨rfl, h1, h2⟩
    exact ⟨_, k, rfl, .inr ⟨_, _, _, rfl, h1⟩, h2⟩
theorem mnew_nil4 (w : World) : Calls Try.prog 7 #[.pointer none, .int .i64 4] w fun e w' => e = .returned (.pointer none) ∧ w = w' :=
  mnew_bad none 0 4 w (clen_nil w) (by unfold Fits; decide)
theorem makes_law (n size g : Int) (w : World) : Calls Try.prog 3 #[.int .i64 n, .int .i64 size, .int .i64 g] w fun e w' => e = .returned (.bool true) ∧ Below w.heap.size w w' := by
  have HNW := Lib.hid (newIs_any n w)
  obtain ⟨m, HM⟩ : ∃ m, Hid (m = w.heap.size) := ⟨_, Lib.hid rfl⟩
  rw [← HM.out]
  go_enter Try.func3, Try.ntmps3
  go_wp2_with (go_at_call 6; refine HNW.out.mono ?_; rintro e w1 ⟨c, L, rfl, hN, hB⟩)
  have HB := Lib.hid (show Below m w w1 by rw [HM.out]; exact hB)
  have hL := hN.small
  have HS := Lib.hid hB.size
  clear hB HNW
  by_cases hf : Fits size L
  · have HW := Lib.hid (mnew_any c L size w1 hN.len hf)
    have HL := Lib.hid ((hN.step ((Below.refl _ w1).alloc (Nat.le_refl _) (.cells #[.pointer c, .int .i64 size] 59))).len)
    obtain ⟨h1, h2, h3, h4⟩ := hf
    have k1 : size ≥ 2 := by omega
    have k2 : size ≤ 64 := by omega
    have k3 : (bits .and .i64 size (size - 1) == 0) = true := by simp [h3]
    have k4 : (L : Int) ≥ size + 3 := by omega
    clear h3 hN
    refine HW.out.mono ?_
    rintro e w2 ⟨rfl, rfl⟩
    go_wp2_with (first | (go_at_call 7; refine (mnew_nil4 _).mono ?_; rintro e w3 ⟨rfl, rfl⟩) | (go_at_call 8; refine HL.out.mono ?_; rintro e w3 ⟨rfl, rfl⟩) | (go_at_call 9; refine (put_nil _ _ _).mono ?_; rintro e w3 ⟨rfl, rfl⟩) | (go_at_call 11; refine (get_nil _).mono ?_; rintro e w3 ⟨rfl, rfl⟩) | (go_at_call 12; refine (grab_nil _).mono ?_; rintro e w3 ⟨rfl, rfl⟩) | (go_at_call 10; refine (mdone_nil _).mono ?_; rintro e w3 ⟨rfl, rfl⟩) | (go_at_call 13; refine (mstep_nil _).mono ?_; rintro e w3 ⟨rfl, rfl⟩) | (go_at_call 14; refine (mgot_nil _).mono ?_; rintro e w3 ⟨rfl, rfl⟩) | (go_at_call 15; refine (msteps_nil _).mono ?_; rintro e w3 ⟨rfl, rfl⟩) | (go_at_call 16; refine (alive14 _).mono ?_; rintro e w4 ⟨rfl, hb4⟩))
    go_ret
    exact ⟨rfl, (HB.out.alloc (Nat.le_trans (by rw [HM.out]; exact Nat.le_refl _) HS.out) _).trans (hb4.mono (by rw [HM.out, World.size_alloc]; exact Nat.le_succ_of_le HS.out))⟩
  · have HW := Lib.hid (mnew_bad c L size w1 hN.len hf)
    have HL := Lib.hid hN.len
    refine HW.out.mono ?_
    rintro e w2 ⟨rfl, rfl⟩
    by_cases h1 : size < 2
    · have k1 : ¬ size ≥ 2 := by omega
      clear hf hN
      go_wp2_with (first | (go_at_call 7; refine (mnew_nil4 _).mono ?_; rintro e w3 ⟨rfl, rfl⟩) | (go_at_call 8; refine HL.out.mono ?_; rintro e w3 ⟨rfl, rfl⟩) | (go_at_call 9; refine (put_nil _ _ _).mono ?_; rintro e w3 ⟨rfl, rfl⟩) | (go_at_call 11; refine (get_nil _).mono ?_; rintro e w3 ⟨rfl, rfl⟩) | (go_at_call 12; refine (grab_nil _).mono ?_; rintro e w3 ⟨rfl, rfl⟩) | (go_at_call 10; refine (mdone_nil _).mono ?_; rintro e w3 ⟨rfl, rfl⟩) | (go_at_call 13; refine (mstep_nil _).mono ?_; rintro e w3 ⟨rfl, rfl⟩) | (go_at_call 14; refine (mgot_nil _).mono ?_; rintro e w3 ⟨rfl, rfl⟩) | (go_at_call 15; refine (msteps_nil _).mono ?_; rintro e w3 ⟨rfl, rfl⟩) | (go_at_call 16; refine (alive14 _).mono ?_; rintro e w4 ⟨rfl, hb4⟩))
      go_ret
      exact ⟨rfl, HB.out.trans (hb4.mono (by rw [HM.out]; exact HS.out))⟩
    · have k1 : size ≥ 2 := by omega
      by_cases h2 : size > 64
      · have k2 : ¬ size ≤ 64 := by omega
        clear hf hN
        go_wp2_with (first | (go_at_call 7; refine (mnew_nil4 _).mono ?_; rintro e w3 ⟨rfl, rfl⟩) | (go_at_call 8; refine HL.out.mono ?_; rintro e w3 ⟨rfl, rfl⟩) | (go_at_call 9; refine (put_nil _ _ _).mono ?_; rintro e w3 ⟨rfl, rfl⟩) | (go_at_call 11; refine (get_nil _).mono ?_; rintro e w3 ⟨rfl, rfl⟩) | (go_at_call 12; refine (grab_nil _).mono ?_; rintro e w3 ⟨rfl, rfl⟩) | (go_at_call 10; refine (mdone_nil _).mono ?_; rintro e w3 ⟨rfl, rfl⟩) | (go_at_call 13; refine (mstep_nil _).mono ?_; rintro e w3 ⟨rfl, rfl⟩) | (go_at_call 14; refine (mgot_nil _).mono ?_; rintro e w3 ⟨rfl, rfl⟩) | (go_at_call 15; refine (msteps_nil _).mono ?_; rintro e w3 ⟨rfl, rfl⟩) | (go_at_call 16; refine (alive14 _).mono ?_; rintro e w4 ⟨rfl, hb4⟩))
        go_ret
        exact ⟨rfl, HB.out.trans (hb4.mono (by rw [HM.out]; exact HS.out))⟩
      · have k2 : size ≤ 64 := by omega
        by_cases h3 : bits .and .i64 size (size - 1) = 0
        · have k3 : (bits .and .i64 size (size - 1) == 0) = true := by simp [h3]
          have k4 : ¬ (L : Int) ≥ size + 3 := fun h => hf ⟨h1, h2, h3, by omega⟩
          have k5 : decide (size + 3 ≤ (L : Int)) = false := by simp; omega
          clear hf hN h3
          go_wp2_with (first | (go_at_call 7; refine (mnew_nil4 _).mono ?_; rintro e w3 ⟨rfl, rfl⟩) | (go_at_call 8; refine HL.out.mono ?_; rintro e w3 ⟨rfl, rfl⟩) | (go_at_call 9; refine (put_nil _ _ _).mono ?_; rintro e w3 ⟨rfl, rfl⟩) | (go_at_call 11; refine (get_nil _).mono ?_; rintro e w3 ⟨rfl, rfl⟩) | (go_at_call 12; refine (grab_nil _).mono ?_; rintro e w3 ⟨rfl, rfl⟩) | (go_at_call 10; refine (mdone_nil _).mono ?_; rintro e w3 ⟨rfl, rfl⟩) | (go_at_call 13; refine (mstep_nil _).mono ?_; rintro e w3 ⟨rfl, rfl⟩) | (go_at_call 14; refine (mgot_nil _).mono ?_; rintro e w3 ⟨rfl, rfl⟩) | (go_at_call 15; refine (msteps_nil _).mono ?_; rintro e w3 ⟨rfl, rfl⟩) | (go_at_call 16; refine (alive14 _).mono ?_; rintro e w4 ⟨rfl, hb4⟩))
          go_ret
          exact ⟨rfl, HB.out.trans (hb4.mono (by rw [HM.out]; exact HS.out))⟩
        · have k3 : (bits .and .i64 size (size - 1) == 0) = false := by simp [h3]
          clear hf hN h3
          go_wp2_with (first | (go_at_call 7; refine (mnew_nil4 _).mono ?_; rintro e w3 ⟨rfl, rfl⟩) | (go_at_call 8; refine HL.out.mono ?_; rintro e w3 ⟨rfl, rfl⟩) | (go_at_call 9; refine (put_nil _ _ _).mono ?_; rintro e w3 ⟨rfl, rfl⟩) | (go_at_call 11; refine (get_nil _).mono ?_; rintro e w3 ⟨rfl, rfl⟩) | (go_at_call 12; refine (grab_nil _).mono ?_; rintro e w3 ⟨rfl, rfl⟩) | (go_at_call 10; refine (mdone_nil _).mono ?_; rintro e w3 ⟨rfl, rfl⟩) | (go_at_call 13; refine (mstep_nil _).mono ?_; rintro e w3 ⟨rfl, rfl⟩) | (go_at_call 14; refine (mgot_nil _).mono ?_; rintro e w3 ⟨rfl, rfl⟩) | (go_at_call 15; refine (msteps_nil _).mono ?_; rintro e w3 ⟨rfl, rfl⟩) | (go_at_call 16; refine (alive14 _).mono ?_; rintro e w4 ⟨rfl, hb4⟩))
          go_ret
          exact ⟨rfl, HB.out.trans (hb4.mono (by rw [HM.out]; exact HS.out))⟩
end Go.Proofs.Ythnhjhlpimgkiaa

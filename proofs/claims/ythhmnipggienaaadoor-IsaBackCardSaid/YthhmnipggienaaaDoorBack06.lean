/-
  The law IsaBack as a contract. Condition: the table is laid.
-/
import Derived.Test.YthhmnipggienaaaDoorLaw06
namespace Go.Proofs.YthhmnipggienaaaDoor
open Go.RowKit
theorem check_isop (op a b c n places funcs : Int) (h : checkF op a b c n places funcs = 0) : isOpB op = true := by
  cases hb : isOpB op with
  | true => rfl
  | false => simp [checkF, hb] at h
theorem check_more (op a b c n places funcs more : Int) (hm : 0 ≤ more) (h : checkF op a b c n places funcs = 0) : checkF op a b c n (places + more) (funcs + more) = 0 := by
  unfold checkF at h ⊢
  by_cases h0 : isOpB op = true
  · rw [h0] at h ⊢
    simp only [Bool.not_true, Bool.false_eq_true, if_false] at h ⊢
    by_cases h1 : regsBad (opRegs op) a b c = true
    · rw [if_pos h1] at h; exact absurd h (by decide)
    · rw [if_neg h1] at h ⊢
      by_cases h2 : spareBad (opRegs op) a b c = true
      · rw [if_pos h2] at h; exact absurd h (by decide)
      · rw [if_neg h2] at h ⊢
        by_cases h3 : opTarget op = 0
        · rw [if_pos h3] at h ⊢; exact h
        · rw [if_neg h3] at h ⊢
          by_cases h4 : n < 0 ∨ (if opTarget op = 2 then funcs else places) ≤ n
          · rw [if_pos h4] at h; exact absurd h (by decide)
          · rw [if_neg]
            intro h5
            apply h4
            rcases h5 with h5 | h5
            · exact .inl h5
            · right
              by_cases h6 : opTarget op = 2
              · rw [if_pos h6] at h5 ⊢; omega
              · rw [if_neg h6] at h5 ⊢; omega
  · simp [h0] at h
theorem find_back (op : Int) (h : isOpB op = true) : opAt (opName op) = op ∧ opIs (opName op) = true := by
  have h' : ¬ (op < 0 ∨ 24 ≤ op) := by simp [isOpB] at h; omega
  rcases op24 op h' with rfl | rfl | rfl | rfl | rfl | rfl | rfl | rfl | rfl | rfl | rfl | rfl | rfl | rfl | rfl | rfl | rfl | rfl | rfl | rfl | rfl | rfl | rfl | rfl <;> decide +kernel
set_option maxHeartbeats 4000000 in
theorem back_law (op a b c n places funcs more : Int) (w : World) (hT : Tab w) :
    Calls Tryd.prog 4 #[.agg #[.int .i64 op, .int .i64 a, .int .i64 b, .int .i64 c, .int .i64 n], .int .i64 places, .int .i64 funcs, .int .i64 more] w fun e w' => e = .returned (.bool true) ∧ Below w.heap.size w w' := by
  have HT := Lib.hid (hT.alloc (.cells #[.int .i64 op, .int .i64 a, .int .i64 b, .int .i64 c, .int .i64 n] 23))
  have HB := Lib.hid ((Below.refl w.heap.size w).alloc (Nat.le_refl _) (.cells #[.int .i64 op, .int .i64 a, .int .i64 b, .int .i64 c, .int .i64 n] 23))
  clear hT
  by_cases hok : 0 ≤ places ∧ 0 ≤ funcs ∧ places ≤ 1048576 ∧ funcs ≤ 1048576 ∧ 0 ≤ more ∧ more ≤ 1048576
  · obtain ⟨g1, g2, g3, g4, g5, g6⟩ := hok
    by_cases hc : checkF op a b c n places funcs = 0
    · have hop := check_isop _ _ _ _ _ _ _ hc
      have hcm := check_more op a b c n places funcs more g5 hc
      obtain ⟨e1, e2⟩ := find_back op hop
      have g6' : decide (1048576 < more) = false := by simp; omega
      clear hop
      go_enter Tryd.func4, Tryd.ntmps4
      go_wp2_with fail
      refine (check_any _ _ _ _ _ _ _ _ HT.out).mono ?_
      rintro e w1 ⟨rfl, hb1⟩
      obtain ⟨hc1, hf1⟩ := bcell hb1
      have hz1 : w.heap.size < w1.heap.size := by have := hb1.size; simp at this; omega
      have HT := Lib.hid (HT.out.step hb1)
      have HB := Lib.hid (HB.out.trans (hb1.mono HB.out.size))
      clear hb1
      go_wp2_with fail
      refine (isaName_any _ _ HT.out).mono ?_
      rintro e w2 ⟨rfl, hb2⟩
      obtain ⟨hc2, hf2⟩ := bcell hb2
      have hz2 : w.heap.size < w2.heap.size := by have := hb2.size; omega
      have HT := Lib.hid (HT.out.step hb2)
      have HB := Lib.hid (HB.out.trans (hb2.mono HB.out.size))
      clear hb2
      go_wp2_with fail
      refine (isaOp_any _ _ HT.out).mono ?_
      rintro e w3 ⟨rfl, hb3⟩
      obtain ⟨hc3, hf3⟩ := bcell hb3
      have hz3 : w.heap.size < w3.heap.size := by have := hb3.size; omega
      have HT := Lib.hid (HT.out.step hb3)
      have HB := Lib.hid (HB.out.trans (hb3.mono HB.out.size))
      clear hb3
      rw [e1, e2]
      go_wp2_with fail
      refine (check_any _ _ _ _ _ _ _ _ HT.out).mono ?_
      rintro e w4 ⟨rfl, hb4⟩
      have HT := Lib.hid (HT.out.step hb4)
      have HB := Lib.hid (HB.out.trans (hb4.mono HB.out.size))
      clear hb4
      rw [hcm]
      go_wp2_with (go_at_call 17; refine (alive06 _ HT.out).mono ?_; rintro e w1 ⟨rfl, hb1⟩; have HT := Lib.hid (HT.out.step hb1); have HB := Lib.hid (HB.out.trans (hb1.mono HB.out.size)); clear hb1)
      go_ret
      exact ⟨rfl, HB.out⟩
    · have hc' : (checkF op a b c n places funcs != 0) = true := by simpa using hc
      have g6' : decide (1048576 < more) = false := by simp; omega
      clear hc
      go_enter Tryd.func4, Tryd.ntmps4
      go_wp2_with (first | (go_at_call 15; refine (check_any _ _ _ _ _ _ _ _ HT.out).mono ?_; rintro e w1 ⟨rfl, hb1⟩; have HT := Lib.hid (HT.out.step hb1); have HB := Lib.hid (HB.out.trans (hb1.mono HB.out.size)); clear hb1) | (go_at_call 17; refine (alive06 _ HT.out).mono ?_; rintro e w1 ⟨rfl, hb1⟩; have HT := Lib.hid (HT.out.step hb1); have HB := Lib.hid (HB.out.trans (hb1.mono HB.out.size)); clear hb1))
      go_ret
      exact ⟨rfl, HB.out⟩
  · have hd : decide (places < 0) = true ∨ decide (places < 0) = false ∧ (decide (funcs < 0) = true ∨ decide (funcs < 0) = false ∧ (decide (1048576 < places) = true ∨ decide (1048576 < places) = false ∧ (decide (1048576 < funcs) = true ∨ decide (1048576 < funcs) = false ∧ (decide (more < 0) = true ∨ decide (more < 0) = false ∧ decide (1048576 < more) = true)))) := by
      simp only [decide_eq_true_eq, decide_eq_false_iff_not]
      omega
    clear hok
    rcases hd with d1 | ⟨d1, d2 | ⟨d2, d3 | ⟨d3, d4 | ⟨d4, d5 | ⟨d5, d6⟩⟩⟩⟩⟩
    all_goals
      go_enter Tryd.func4, Tryd.ntmps4
      go_wp2_with (first | (go_at_call 17; refine (alive06 _ HT.out).mono ?_; rintro e w1 ⟨rfl, hb1⟩; have HT := Lib.hid (HT.out.step hb1); have HB := Lib.hid (HB.out.trans (hb1.mono HB.out.size)); clear hb1))
      go_ret
      exact ⟨rfl, HB.out⟩
end Go.Proofs.YthhmnipggienaaaDoor

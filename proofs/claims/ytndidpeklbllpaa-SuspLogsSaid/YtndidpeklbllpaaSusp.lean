/-
  Contracts of susp.Next, susp.Resume, and the law SuspLocks as a contract.
-/
import Derived.Test.YtndidpeklbllpaaLaw18
namespace Go.Proofs.Ytndidpeklbllpaa
open Go.RowKit
/-- What comes next of one that is to be suspended. -/
def nextI (n : Int) (self holder : Bool) : Int := if self || !isB n then 0 else if 8 ≤ n then (if holder then 0 else 2) else if locksB n then 4 else if n = 6 then 1 else 3
def resumeI (n : Int) (ready : Bool) : Int := if scanB n then (if baseI n = 4 then (if ready then 2 else 1) else if baseI n = 5 then 2 else 1) else 0
set_option maxHeartbeats 1000000 in
theorem next_any (n : Int) (s h : Bool) (w : World) (hn : I64 n) : Calls Try.prog 12 #[.int .i64 n, .bool s, .bool h] w fun e w' => e = .returned (.int .i64 (nextI n s h)) ∧ w = w' := by
  cases s with
  | true =>
    have e1 : nextI n true h = 0 := by simp [nextI]
    rw [e1]; clear e1
    go_enter Try.func12, Try.ntmps12
    go_wp2_with fail
    go_ret
    exact ⟨rfl, rfl⟩
  | false =>
    by_cases hb : isB n = true
    · by_cases h8 : 8 ≤ n
      · have hs : scanB n = true := by simp [scanB, hb, h8]
        cases h with
        | true =>
          have e1 : nextI n false true = 0 := by simp [nextI, hb, h8]
          rw [e1]; clear e1
          go_enter Try.func12, Try.ntmps12
          go_wp2_with (first | (go_at_call 16; refine (is_any _ _ hn).mono ?_; rintro e w' ⟨rfl, rfl⟩) | (go_at_call 17; refine (scanned_any _ _ hn).mono ?_; rintro e w' ⟨rfl, rfl⟩))
          go_ret
          exact ⟨rfl, rfl⟩
        | false =>
          have e1 : nextI n false false = 2 := by simp [nextI, hb, h8]
          rw [e1]; clear e1
          go_enter Try.func12, Try.ntmps12
          go_wp2_with (first | (go_at_call 16; refine (is_any _ _ hn).mono ?_; rintro e w' ⟨rfl, rfl⟩) | (go_at_call 17; refine (scanned_any _ _ hn).mono ?_; rintro e w' ⟨rfl, rfl⟩))
          go_ret
          exact ⟨rfl, rfl⟩
      · have hs : scanB n = false := by simp [scanB, h8]
        by_cases hl : locksB n = true
        · have e1 : nextI n false h = 4 := by simp [nextI, hb, h8, hl]
          have e2 : lockF n = 0 := by simp [lockF, hb, h8, hl]
          rw [e1]; clear e1
          go_enter Try.func12, Try.ntmps12
          go_wp2_with (first | (go_at_call 16; refine (is_any _ _ hn).mono ?_; rintro e w' ⟨rfl, rfl⟩) | (go_at_call 17; refine (scanned_any _ _ hn).mono ?_; rintro e w' ⟨rfl, rfl⟩) | (go_at_call 18; refine (lock_any _ _ hn).mono ?_; rintro e w' ⟨rfl, rfl⟩))
          go_ret
          exact ⟨rfl, rfl⟩
        · have hl : locksB n = false := by simpa using hl
          have e2 : lockF n = 9 := by simp [lockF, hb, h8, hl]
          by_cases h6 : n = 6
          · have e1 : nextI n false h = 1 := by rw [h6]; cases h <;> decide
            have h6' : (n == 6) = true := by simpa using h6
            rw [e1]; clear e1 h6
            go_enter Try.func12, Try.ntmps12
            go_wp2_with (first | (go_at_call 16; refine (is_any _ _ hn).mono ?_; rintro e w' ⟨rfl, rfl⟩) | (go_at_call 17; refine (scanned_any _ _ hn).mono ?_; rintro e w' ⟨rfl, rfl⟩) | (go_at_call 18; refine (lock_any _ _ hn).mono ?_; rintro e w' ⟨rfl, rfl⟩))
            go_ret
            exact ⟨rfl, rfl⟩
          · have e1 : nextI n false h = 3 := by simp [nextI, hb, h8, hl, h6]
            have h6' : (n == 6) = false := by simpa using h6
            rw [e1]; clear e1 h6
            go_enter Try.func12, Try.ntmps12
            go_wp2_with (first | (go_at_call 16; refine (is_any _ _ hn).mono ?_; rintro e w' ⟨rfl, rfl⟩) | (go_at_call 17; refine (scanned_any _ _ hn).mono ?_; rintro e w' ⟨rfl, rfl⟩) | (go_at_call 18; refine (lock_any _ _ hn).mono ?_; rintro e w' ⟨rfl, rfl⟩))
            go_ret
            exact ⟨rfl, rfl⟩
    · have hb : isB n = false := by simpa using hb
      have e1 : nextI n false h = 0 := by simp [nextI, hb]
      rw [e1]; clear e1
      go_enter Try.func12, Try.ntmps12
      go_wp2_with (first | (go_at_call 16; refine (is_any _ _ hn).mono ?_; rintro e w' ⟨rfl, rfl⟩))
      go_ret
      exact ⟨rfl, rfl⟩
theorem resume_any (n : Int) (r : Bool) (w : World) (hn : I64 n) : Calls Try.prog 13 #[.int .i64 n, .bool r] w fun e w' => e = .returned (.int .i64 (resumeI n r)) ∧ w = w' := by
  by_cases hs : scanB n = true
  · by_cases h4 : baseI n = 4
    · cases r with
      | true =>
        have e1 : resumeI n true = 2 := by simp [resumeI, hs, h4]
        rw [e1]; clear e1
        go_enter Try.func13, Try.ntmps13
        go_wp2_with (first | (go_at_call 19; refine (base_any _ _ hn).mono ?_; rintro e w' ⟨rfl, rfl⟩) | (go_at_call 17; refine (scanned_any _ _ hn).mono ?_; rintro e w' ⟨rfl, rfl⟩))
        go_ret
        exact ⟨rfl, rfl⟩
      | false =>
        have e1 : resumeI n false = 1 := by simp [resumeI, hs, h4]
        rw [e1]; clear e1
        go_enter Try.func13, Try.ntmps13
        go_wp2_with (first | (go_at_call 19; refine (base_any _ _ hn).mono ?_; rintro e w' ⟨rfl, rfl⟩) | (go_at_call 17; refine (scanned_any _ _ hn).mono ?_; rintro e w' ⟨rfl, rfl⟩))
        go_ret
        exact ⟨rfl, rfl⟩
    · have h4' : (baseI n == 4) = false := by simpa using h4
      by_cases h5 : baseI n = 5
      · have e1 : resumeI n r = 2 := by simp [resumeI, hs, h5]
        rw [e1]; clear e1 h4 h4'
        go_enter Try.func13, Try.ntmps13
        go_wp2_with (first | (go_at_call 19; refine (base_any _ _ hn).mono ?_; rintro e w' ⟨rfl, rfl⟩) | (go_at_call 17; refine (scanned_any _ _ hn).mono ?_; rintro e w' ⟨rfl, rfl⟩))
        go_ret
        exact ⟨rfl, rfl⟩
      · have h5' : (baseI n == 5) = false := by simpa using h5
        have e1 : resumeI n r = 1 := by simp [resumeI, hs, h4, h5]
        rw [e1]; clear e1 h4 h5
        go_enter Try.func13, Try.ntmps13
        go_wp2_with (first | (go_at_call 19; refine (base_any _ _ hn).mono ?_; rintro e w' ⟨rfl, rfl⟩) | (go_at_call 17; refine (scanned_any _ _ hn).mono ?_; rintro e w' ⟨rfl, rfl⟩))
        go_ret
        exact ⟨rfl, rfl⟩
  · have hs : scanB n = false := by simpa using hs
    have e1 : resumeI n r = 0 := by simp [resumeI, hs]
    rw [e1]; clear e1
    go_enter Try.func13, Try.ntmps13
    go_wp2_with (first | (go_at_call 17; refine (scanned_any _ _ hn).mono ?_; rintro e w' ⟨rfl, rfl⟩))
    go_ret
    exact ⟨rfl, rfl⟩
theorem alive26 (w : World) : Calls Try.prog 4 #[] w fun e w' => e = .returned (.bool true) ∧ w = w' := by
  have e1 : nextI 1 false false = 4 := by decide
  have e2 : nextI 9 false false = 2 := by decide
  have e3 : resumeI 13 false = 2 := by decide
  go_enter Try.func4, Try.ntmps4
  go_wp2_with (first | (go_at_call 12; refine (next_any _ _ _ _ (i64_lit _ (by omega))).mono ?_; rintro e w' ⟨rfl, rfl⟩) | (go_at_call 13; refine (resume_any _ _ _ (i64_lit _ (by omega))).mono ?_; rintro e w' ⟨rfl, rfl⟩))
  go_ret
  exact ⟨rfl, rfl⟩
theorem next_four (n : Int) (h : nextI n false false = 4) : n = 1 ∨ n = 3 ∨ n = 4 ∨ n = 5 := by
  unfold nextI at h
  by_cases hb : isB n = true
  · rcases isB_cases n hb with rfl | rfl | rfl | rfl | rfl | rfl | rfl | rfl | rfl | rfl | rfl <;> revert h <;> decide
  · simp [hb] at h
theorem next_is (n : Int) (h : (nextI n false false == 4) = false) : (isB n == (nextI n false false != 0)) = true := by
  by_cases hb : isB n = true
  · rcases isB_cases n hb with rfl | rfl | rfl | rfl | rfl | rfl | rfl | rfl | rfl | rfl | rfl <;> revert h <;> decide
  · simp [hb, nextI]
end Go.Proofs.Ytndidpeklbllpaa

/-
  Contracts of susp.Next, susp.Resume, and the law SuspLocks as a contract.
-/
import Derived.Test.YthbpaggeajjepaaLaw18
namespace Go.Proofs.Ythbpaggeajjepaa
open Go.RowKit
/-- What comes next of one that is to be suspended. -/
def nextI (n : Int) (self holder : Bool) : Int := if self || !isB n then 0 else if 8 ≤ n then (if holder then 0 else 2) else if locksB n then 4 else if n = 6 then 1 else 3
def resumeI (n : Int) (ready : Bool) : Int := if scanB n then (if baseI n = 4 then (if ready then 2 else 1) else if baseI n = 5 then 2 else 1) else 0
set_option maxHeartbeats 1000000 in
theorem next_any (n : Int) (s h : Bool) (w : World) (hn : I64 n) : Calls Try.prog 35 #[.int .i64 n, .bool s, .bool h] w fun e w' => e = .returned (.int .i64 (nextI n s h)) ∧ w = w' := by
  cases s with
  | true =>
    have e1 : nextI n true h = 0 := by simp [nextI]
    rw [e1]; clear e1
    go_enter Try.func35, Try.ntmps35
    go_wp2_with fail
    go_ret
    exact ⟨rfl, rfl⟩
  | false =>
    by_cases hb : isB n = true
    · by_cases h8 : 8 ≤ n
      · have hs : scanB n = true := by simp [scanB, hb, h8]
        cases h with
        | true =>
          have e1 : nextI n false true = 0 := by simp [nextI, hb, h8]
          rw [e1]; clear e1
          go_enter Try.func35, Try.ntmps35
          go_wp2_with (first | (go_at_call 27; refine (is_any _ _ hn).mono ?_; rintro e w' ⟨rfl, rfl⟩) | (go_at_call 31; refine (scanned_any _ _ hn).mono ?_; rintro e w' ⟨rfl, rfl⟩))
          go_ret
          exact ⟨rfl, rfl⟩
        | false =>
          have e1 : nextI n false false = 2 := by simp [nextI, hb, h8]
          rw [e1]; clear e1
          go_enter Try.func35, Try.ntmps35
          go_wp2_with (first | (go_at_call 27; refine (is_any _ _ hn).mono ?_; rintro e w' ⟨rfl, rfl⟩) | (go_at_call 31; refine (scanned_any _ _ hn).mono ?_; rintro e w' ⟨rfl, rfl⟩))
          go_ret
          exact ⟨rfl, rfl⟩
      · have hs : scanB n = false := by simp [scanB, h8]
        by_cases hl : locksB n = true
        · have e1 : nextI n false h = 4 := by simp [nextI, hb, h8, hl]
          have e2 : lockF n = 0 := by simp [lockF, hb, h8, hl]
          rw [e1]; clear e1
          go_enter Try.func35, Try.ntmps35
          go_wp2_with (first | (go_at_call 27; refine (is_any _ _ hn).mono ?_; rintro e w' ⟨rfl, rfl⟩) | (go_at_call 31; refine (scanned_any _ _ hn).mono ?_; rintro e w' ⟨rfl, rfl⟩) | (go_at_call 37; refine (lock_any _ _ hn).mono ?_; rintro e w' ⟨rfl, rfl⟩))
          go_ret
          exact ⟨rfl, rfl⟩
        · have hl : locksB n = false := by simpa using hl
          have e2 : lockF n = 9 := by simp [lockF, hb, h8, hl]
          by_cases h6 : n = 6
          · have e1 : nextI n false h = 1 := by rw [h6]; cases h <;> decide
            have h6' : (n == 6) = true := by simpa using h6
            rw [e1]; clear e1 h6
            go_enter Try.func35, Try.ntmps35
            go_wp2_with (first | (go_at_call 27; refine (is_any _ _ hn).mono ?_; rintro e w' ⟨rfl, rfl⟩) | (go_at_call 31; refine (scanned_any _ _ hn).mono ?_; rintro e w' ⟨rfl, rfl⟩) | (go_at_call 37; refine (lock_any _ _ hn).mono ?_; rintro e w' ⟨rfl, rfl⟩))
            go_ret
            exact ⟨rfl, rfl⟩
          · have e1 : nextI n false h = 3 := by simp [nextI, hb, h8, hl, h6]
            have h6' : (n == 6) = false := by simpa using h6
            rw [e1]; clear e1 h6
            go_enter Try.func35, Try.ntmps35
            go_wp2_with (first | (go_at_call 27; refine (is_any _ _ hn).mono ?_; rintro e w' ⟨rfl, rfl⟩) | (go_at_call 31; refine (scanned_any _ _ hn).mono ?_; rintro e w' ⟨rfl, rfl⟩) | (go_at_call 37; refine (lock_any _ _ hn).mono ?_; rintro e w' ⟨rfl, rfl⟩))
            go_ret
            exact ⟨rfl, rfl⟩
    · have hb : isB n = false := by simpa using hb
      have e1 : nextI n false h = 0 := by simp [nextI, hb]
      rw [e1]; clear e1
      go_enter Try.func35, Try.ntmps35
      go_wp2_with (first | (go_at_call 27; refine (is_any _ _ hn).mono ?_; rintro e w' ⟨rfl, rfl⟩))
      go_ret
      exact ⟨rfl, rfl⟩
theorem resume_any (n : Int) (r : Bool) (w : World) (hn : I64 n) : Calls Try.prog 38 #[.int .i64 n, .bool r] w fun e w' => e = .returned (.int .i64 (resumeI n r)) ∧ w = w' := by
  by_cases hs : scanB n = true
  · by_cases h4 : baseI n = 4
    · cases r with
      | true =>
        have e1 : resumeI n true = 2 := by simp [resumeI, hs, h4]
        rw [e1]; clear e1
        go_enter Try.func38, Try.ntmps38
        go_wp2_with (first | (go_at_call 29; refine (base_any _ _ hn).mono ?_; rintro e w' ⟨rfl, rfl⟩) | (go_at_call 31; refine (scanned_any _ _ hn).mono ?_; rintro e w' ⟨rfl, rfl⟩))
        go_ret
        exact ⟨rfl, rfl⟩
      | false =>
        have e1 : resumeI n false = 1 := by simp [resumeI, hs, h4]
        rw [e1]; clear e1
        go_enter Try.func38, Try.ntmps38
        go_wp2_with (first | (go_at_call 29; refine (base_any _ _ hn).mono ?_; rintro e w' ⟨rfl, rfl⟩) | (go_at_call 31; refine (scanned_any _ _ hn).mono ?_; rintro e w' ⟨rfl, rfl⟩))
        go_ret
        exact ⟨rfl, rfl⟩
    · have h4' : (baseI n == 4) = false := by simpa using h4
      by_cases h5 : baseI n = 5
      · have e1 : resumeI n r = 2 := by simp [resumeI, hs, h5]
        rw [e1]; clear e1 h4 h4'
        go_enter Try.func38, Try.ntmps38
        go_wp2_with (first | (go_at_call 29; refine (base_any _ _ hn).mono ?_; rintro e w' ⟨rfl, rfl⟩) | (go_at_call 31; refine (scanned_any _ _ hn).mono ?_; rintro e w' ⟨rfl, rfl⟩))
        go_ret
        exact ⟨rfl, rfl⟩
      · have h5' : (baseI n == 5) = false := by simpa using h5
        have e1 : resumeI n r = 1 := by simp [resumeI, hs, h4, h5]
        rw [e1]; clear e1 h4 h5
        go_enter Try.func38, Try.ntmps38
        go_wp2_with (first | (go_at_call 29; refine (base_any _ _ hn).mono ?_; rintro e w' ⟨rfl, rfl⟩) | (go_at_call 31; refine (scanned_any _ _ hn).mono ?_; rintro e w' ⟨rfl, rfl⟩))
        go_ret
        exact ⟨rfl, rfl⟩
  · have hs : scanB n = false := by simpa using hs
    have e1 : resumeI n r = 0 := by simp [resumeI, hs]
    rw [e1]; clear e1
    go_enter Try.func38, Try.ntmps38
    go_wp2_with (first | (go_at_call 31; refine (scanned_any _ _ hn).mono ?_; rintro e w' ⟨rfl, rfl⟩))
    go_ret
    exact ⟨rfl, rfl⟩
theorem alive26 (w : World) : Calls Try.prog 36 #[] w fun e w' => e = .returned (.bool true) ∧ w = w' := by
  have e1 : nextI 1 false false = 4 := by decide
  have e2 : nextI 9 false false = 2 := by decide
  have e3 : resumeI 13 false = 2 := by decide
  go_enter Try.func36, Try.ntmps36
  go_wp2_with (first | (go_at_call 35; refine (next_any _ _ _ _ (i64_lit _ (by omega))).mono ?_; rintro e w' ⟨rfl, rfl⟩) | (go_at_call 38; refine (resume_any _ _ _ (i64_lit _ (by omega))).mono ?_; rintro e w' ⟨rfl, rfl⟩))
  go_ret
  exact ⟨rfl, rfl⟩
theorem next_four (n : Int) (h : nextI n false false = 4) : n = 1 ∨ n = 3 ∨ n = 4 ∨ n = 5 := by
  unfold nextI at h
  by_cases hb : isB n = true
  · rcases isB_cases n hb with rfl | rfl | rfl | rfl | rfl | rfl | rfl | rfl | rfl | rfl | rfl <;> revert h <;> decide
  · simp [hb] at h
theorem next_is (n : Int) (h : (nextI n false false == 4) = false) : (isB n == (nextI n false false != 0)) = true := by
  by_cases hb : isB n = true
  · rcases isB_cases n hb with rfl | rfl | rfl | rfl | rfl | rfl | rfl | rfl | rfl | rfl | rfl <;> revert h <;> decide
  · simp [hb, nextI]
set_option maxHeartbeats 2000000 in
theorem locks_law (n : Int) (r : Bool) (w : World) (hn : I64 n) : Calls Try.prog 8 #[.int .i64 n, .bool r] w fun e w' => e = .returned (.bool true) ∧ w = w' := by
  by_cases h : nextI n false false = 4
  · rcases next_four n h with rfl | rfl | rfl | rfl
    all_goals
      clear h hn
      have e1 : lockF 1 = 0 := by decide
      have e2 : lockI 1 = 9 := by decide
      have e3 : lockF 3 = 0 := by decide
      have e4 : lockI 3 = 11 := by decide
      have e5 : lockF 4 = 0 := by decide
      have e6 : lockI 4 = 12 := by decide
      have e7 : lockF 5 = 0 := by decide
      have e8 : lockI 5 = 13 := by decide
      have a0 : nextI 1 false false = 4 := by decide
      have a1 : nextI 3 false false = 4 := by decide
      have a2 : nextI 4 false false = 4 := by decide
      have a3 : nextI 5 false false = 4 := by decide
      have a4 : nextI 9 false false = 2 := by decide
      have a5 : nextI 11 false false = 2 := by decide
      have a6 : nextI 12 false false = 2 := by decide
      have a7 : nextI 13 false false = 2 := by decide
      have b4 : nextI 9 false true = 0 := by decide
      have b5 : nextI 11 false true = 0 := by decide
      have b6 : nextI 12 false true = 0 := by decide
      have b7 : nextI 13 false true = 0 := by decide
      have c4 : (resumeI 9 r == 0) = false := by cases r <;> decide
      have c5 : (resumeI 11 r == 0) = false := by cases r <;> decide
      have c6 : (resumeI 12 r == 0) = false := by cases r <;> decide
      have c7 : (resumeI 13 r == 0) = false := by cases r <;> decide
      have d0 : unlockI 9 = 1 := by decide
      have d1 : unlockI 11 = 3 := by decide
      have d2 : unlockI 12 = 4 := by decide
      have d3 : unlockI 13 = 5 := by decide
      have d4 : unlockF 9 = 0 := by decide
      have d5 : unlockF 11 = 0 := by decide
      have d6 : unlockF 12 = 0 := by decide
      have d7 : unlockF 13 = 0 := by decide
      have f0 : resumeI 1 r = 0 := by cases r <;> decide
      have f1 : resumeI 3 r = 0 := by cases r <;> decide
      have f2 : resumeI 4 r = 0 := by cases r <;> decide
      have f3 : resumeI 5 r = 0 := by cases r <;> decide
      go_enter Try.func8, Try.ntmps8
      go_wp2_with (first | (go_at_call 35; refine (next_any _ _ _ _ (i64_lit _ (by omega))).mono ?_; rintro e w' ⟨rfl, rfl⟩) | (go_at_call 38; refine (resume_any _ _ _ (i64_lit _ (by omega))).mono ?_; rintro e w' ⟨rfl, rfl⟩) | (go_at_call 37; refine (lock_any _ _ (i64_lit _ (by omega))).mono ?_; rintro e w' ⟨rfl, rfl⟩) | (go_at_call 39; refine (unlock_any _ _ (i64_lit _ (by omega))).mono ?_; rintro e w' ⟨rfl, rfl⟩) | (go_at_call 36; refine (alive26 _).mono ?_; rintro e w' ⟨rfl, rfl⟩))
      go_ret
      exact ⟨rfl, rfl⟩
  · have h4 : (nextI n false false == 4) = false := by simpa using h
    have h5 : (nextI n false false != 4) = true := by simpa using h
    have h0 := next_is n h4
    clear h
    go_enter Try.func8, Try.ntmps8
    go_wp2_with (first | (go_at_call 35; refine (next_any _ _ _ _ hn).mono ?_; rintro e w' ⟨rfl, rfl⟩) | (go_at_call 28; refine (ris_any _ _ hn).mono ?_; rintro e w' ⟨rfl, rfl⟩) | (go_at_call 36; refine (alive26 _).mono ?_; rintro e w' ⟨rfl, rfl⟩))
    go_ret
    exact ⟨rfl, rfl⟩
end Go.Proofs.Ythbpaggeajjepaa

/-
  Contracts of the reference escapementref18, in the words of the contracts of gstat.
-/
import Derived.Test.YthbpaggeajjepaaMay
namespace Go.Proofs.Ythbpaggeajjepaa
open Go.RowKit
theorem rlocks_any (s : Int) (w : World) : Calls Try.prog 52 #[.int .i64 s] w fun e w' => e = .returned (.bool (locksB s)) ∧ w = w' := by
  have hl : locksB s = (s == 1 || s == 3 || s == 4 || s == 5) := rfl
  rw [hl]
  by_cases h1 : s = 1
  · subst h1; clear hl
    go_enter Try.func52, Try.ntmps52
    go_wp2
    go_ret
    exact ⟨rfl, rfl⟩
  · have h1' : (s == 1) = false := by simpa using h1
    by_cases h3 : s = 3
    · subst h3; clear hl
      go_enter Try.func52, Try.ntmps52
      go_wp2
      go_ret
      exact ⟨rfl, rfl⟩
    · have h3' : (s == 3) = false := by simpa using h3
      by_cases h4 : s = 4
      · subst h4; clear hl
        go_enter Try.func52, Try.ntmps52
        go_wp2
        go_ret
        exact ⟨rfl, rfl⟩
      · have h4' : (s == 4) = false := by simpa using h4
        rw [h1', h3', h4']
        clear hl h1 h3 h4
        go_enter Try.func52, Try.ntmps52
        go_wp2
        go_ret
        exact ⟨rfl, rfl⟩
theorem ris_any (n : Int) (w : World) (hn : I64 n) : Calls Try.prog 28 #[.int .i64 n] w fun e w' => e = .returned (.bool (isB n)) ∧ w = w' := by
  have hn1 := hn.1
  have hn2 := hn.2
  by_cases h0 : 0 ≤ n
  · by_cases h6 : n ≤ 6
    · have e : isB n = true := by simp [isB]; omega
      rw [e]; clear e
      go_enter Try.func28, Try.ntmps28
      go_wp2_with fail
      go_ret
      exact ⟨rfl, rfl⟩
    · by_cases h8 : 8 ≤ n
      · by_cases h14 : n ≤ 14
        · have e : isB n = locksB (n - 8) := by simp only [isB]; rw [decide_eq_false (by omega), decide_eq_true (by omega)]; simp
          rw [e]; clear e
          go_enter Try.func28, Try.ntmps28
          go_wp2_with (go_at_call 52; refine (rlocks_any _ _).mono ?_; rintro e w' ⟨rfl, rfl⟩)
          go_ret
          exact ⟨rfl, rfl⟩
        · have e : isB n = false := by simp [isB]; omega
          rw [e]; clear e
          go_enter Try.func28, Try.ntmps28
          go_wp2_with fail
          go_ret
          exact ⟨rfl, rfl⟩
      · have e : isB n = false := by simp [isB]; omega
        rw [e]; clear e
        go_enter Try.func28, Try.ntmps28
        go_wp2_with fail
        go_ret
        exact ⟨rfl, rfl⟩
  · have e : isB n = false := by simp [isB]; omega
    rw [e]; clear e
    go_enter Try.func28, Try.ntmps28
    go_wp2_with fail
    go_ret
    exact ⟨rfl, rfl⟩
theorem rbase_any (n : Int) (w : World) (hn : I64 n) : Calls Try.prog 30 #[.int .i64 n] w fun e w' => e = .returned (.int .i64 (baseI n)) ∧ w = w' := by
  by_cases hb : isB n = true
  · have h0 := isB_lo n hb
    have h1 := isB_hi n hb
    have e : baseI n = n % 8 := by unfold baseI; rw [if_pos hb]; split <;> omega
    rw [e]; clear e
    go_enter Try.func30, Try.ntmps30
    go_wp2_with (go_at_call 28; refine (ris_any _ _ hn).mono ?_; rintro e w' ⟨rfl, rfl⟩)
    go_ret
    exact ⟨rfl, rfl⟩
  · have hb : isB n = false := by simpa using hb
    have e : baseI n = 0 := by simp [baseI, hb]
    rw [e]; clear e
    go_enter Try.func30, Try.ntmps30
    go_wp2_with (go_at_call 28; refine (ris_any _ _ hn).mono ?_; rintro e w' ⟨rfl, rfl⟩)
    go_ret
    exact ⟨rfl, rfl⟩
theorem rlock_any (n : Int) (w : World) (hn : I64 n) : Calls Try.prog 42 #[.int .i64 n] w fun e w' => e = .returned (.tuple #[.int .i64 (lockI n), .int .i64 (lockF n)]) ∧ w = w' := by
  by_cases hb : isB n = true
  · have h0 := isB_lo n hb
    have h1 := isB_hi n hb
    by_cases h8 : n < 8
    · by_cases hk : locksB n = true
      · have e1 : lockI n = n + 8 := by simp [lockI, hb, h8, hk]
        have e2 : lockF n = 0 := by simp [lockF, hb, hk]; omega
        rw [e1, e2]; clear e1 e2
        go_enter Try.func42, Try.ntmps42
        go_wp2_with (first | (go_at_call 28; refine (ris_any _ _ hn).mono ?_; rintro e w' ⟨rfl, rfl⟩) | (go_at_call 52; refine (rlocks_any _ _).mono ?_; rintro e w' ⟨rfl, rfl⟩))
        go_ret2
        exact ⟨rfl, rfl⟩
      · have hk : locksB n = false := by simpa using hk
        have e1 : lockI n = 0 := by simp [lockI, hk]
        have e2 : lockF n = 9 := by simp [lockF, hb, hk]; omega
        rw [e1, e2]; clear e1 e2
        go_enter Try.func42, Try.ntmps42
        go_wp2_with (first | (go_at_call 28; refine (ris_any _ _ hn).mono ?_; rintro e w' ⟨rfl, rfl⟩) | (go_at_call 52; refine (rlocks_any _ _).mono ?_; rintro e w' ⟨rfl, rfl⟩))
        go_ret2
        exact ⟨rfl, rfl⟩
    · have e1 : lockI n = 0 := by simp [lockI]; omega
      have e2 : lockF n = 7 := by simp [lockF, hb]; omega
      rw [e1, e2]; clear e1 e2
      go_enter Try.func42, Try.ntmps42
      go_wp2_with (first | (go_at_call 28; refine (ris_any _ _ hn).mono ?_; rintro e w' ⟨rfl, rfl⟩) | (go_at_call 52; refine (rlocks_any _ _).mono ?_; rintro e w' ⟨rfl, rfl⟩))
      go_ret2
      exact ⟨rfl, rfl⟩
  · have hb : isB n = false := by simpa using hb
    have e1 : lockI n = 0 := by simp [lockI, hb]
    have e2 : lockF n = 1 := by simp [lockF, hb]
    rw [e1, e2]; clear e1 e2
    go_enter Try.func42, Try.ntmps42
    go_wp2_with (first | (go_at_call 28; refine (ris_any _ _ hn).mono ?_; rintro e w' ⟨rfl, rfl⟩))
    go_ret2
    exact ⟨rfl, rfl⟩
theorem runlock_any (n : Int) (w : World) (hn : I64 n) : Calls Try.prog 43 #[.int .i64 n] w fun e w' => e = .returned (.tuple #[.int .i64 (unlockI n), .int .i64 (unlockF n)]) ∧ w = w' := by
  by_cases hb : isB n = true
  · have h0 := isB_lo n hb
    have h1 := isB_hi n hb
    by_cases h8 : n < 8
    · have e1 : unlockI n = 0 := by simp [unlockI]; omega
      have e2 : unlockF n = 9 := by simp [unlockF, hb]; omega
      rw [e1, e2]; clear e1 e2
      go_enter Try.func43, Try.ntmps43
      go_wp2_with (first | (go_at_call 28; refine (ris_any _ _ hn).mono ?_; rintro e w' ⟨rfl, rfl⟩))
      go_ret2
      exact ⟨rfl, rfl⟩
    · have e1 : unlockI n = n - 8 := by rw [unlockI, hb, if_pos (by simp; omega)]
      have e2 : unlockF n = 0 := by simp [unlockF, hb]; omega
      rw [e1, e2]; clear e1 e2
      go_enter Try.func43, Try.ntmps43
      go_wp2_with (first | (go_at_call 28; refine (ris_any _ _ hn).mono ?_; rintro e w' ⟨rfl, rfl⟩))
      go_ret2
      exact ⟨rfl, rfl⟩
  · have hb : isB n = false := by simpa using hb
    have e1 : unlockI n = 0 := by simp [unlockI, hb]
    have e2 : unlockF n = 1 := by simp [unlockF, hb]
    rw [e1, e2]; clear e1 e2
    go_enter Try.func43, Try.ntmps43
    go_wp2_with (first | (go_at_call 28; refine (ris_any _ _ hn).mono ?_; rintro e w' ⟨rfl, rfl⟩))
    go_ret2
    exact ⟨rfl, rfl⟩
theorem rmay_out (f t : Int) (w : World) (h : f < 0 ∨ 5 < f) : Calls Try.prog 45 #[.int .i64 f, .int .i64 t] w fun e w' => e = .returned (.bool false) ∧ w = w' := by
  have h0 : (f == 0) = false := by simp; omega
  have h1 : (f == 1) = false := by simp; omega
  have h2 : (f == 2) = false := by simp; omega
  have h3 : (f == 3) = false := by simp; omega
  have h4 : (f == 4) = false := by simp; omega
  have h5 : (f == 5) = false := by simp; omega
  clear h
  go_enter Try.func45, Try.ntmps45
  go_wp2
  go_ret
  exact ⟨rfl, rfl⟩
theorem rmay_045 (f t : Int) (w : World) (h : f = 0 ∨ f = 4 ∨ f = 5) : Calls Try.prog 45 #[.int .i64 f, .int .i64 t] w fun e w' => e = .returned (.bool (t == 1)) ∧ w = w' := by
  rcases h with rfl | rfl | rfl
  all_goals
    go_enter Try.func45, Try.ntmps45
    go_wp2
    go_ret
    exact ⟨rfl, rfl⟩
theorem rmay_1 (t : Int) (w : World) : Calls Try.prog 45 #[.int .i64 1, .int .i64 t] w fun e w' => e = .returned (.bool (t == 2 || t == 5)) ∧ w = w' := by
  by_cases h : (t == 2) = true
  all_goals (try simp only [Bool.not_eq_true] at h)
  all_goals
    rw [h]
    go_enter Try.func45, Try.ntmps45
    go_wp2
    go_ret
    exact ⟨by simp, rfl⟩
theorem rmay_3 (t : Int) (w : World) : Calls Try.prog 45 #[.int .i64 3, .int .i64 t] w fun e w' => e = .returned (.bool (t == 1 || t == 2)) ∧ w = w' := by
  by_cases h : (t == 1) = true
  all_goals (try simp only [Bool.not_eq_true] at h)
  all_goals
    rw [h]
    go_enter Try.func45, Try.ntmps45
    go_wp2
    go_ret
    exact ⟨by simp, rfl⟩
theorem rmay_2 (t : Int) (w : World) : Calls Try.prog 45 #[.int .i64 2, .int .i64 t] w fun e w' => e = .returned (.bool (t == 1 || (decide (3 ≤ t) && decide (t ≤ 6)))) ∧ w = w' := by
  by_cases h : (t == 1) = true
  · rw [h]
    go_enter Try.func45, Try.ntmps45
    go_wp2
    go_ret
    exact ⟨by simp, rfl⟩
  · simp only [Bool.not_eq_true] at h
    rw [h]
    by_cases h3 : 3 ≤ t
    · go_enter Try.func45, Try.ntmps45
      go_wp2
      go_ret
      exact ⟨by simp [h3], rfl⟩
    · have h3' : decide (3 ≤ t) = false := by simpa using h3
      go_enter Try.func45, Try.ntmps45
      go_wp2
      go_ret
      exact ⟨by simp, rfl⟩
theorem rmay_any (f t : Int) (w : World) : Calls Try.prog 45 #[.int .i64 f, .int .i64 t] w fun e w' => e = .returned (.bool (mayB f t)) ∧ w = w' := by
  unfold mayB
  by_cases h : f = 0 ∨ f = 4 ∨ f = 5
  · rw [if_pos h]; exact rmay_045 f t w h
  · rw [if_neg h]
    by_cases h1 : f = 1
    · subst h1; rw [if_pos rfl]; exact rmay_1 t w
    · rw [if_neg h1]
      by_cases h2 : f = 2
      · subst h2; rw [if_pos rfl]; exact rmay_2 t w
      · rw [if_neg h2]
        by_cases h3 : f = 3
        · subst h3; rw [if_pos rfl]; exact rmay_3 t w
        · rw [if_neg h3]; exact rmay_out f t w (by omega)
theorem rmove_any (n t : Int) (w : World) (hn : I64 n) : Calls Try.prog 41 #[.int .i64 n, .int .i64 t] w fun e w' => e = .returned (.tuple #[.int .i64 (moveI n t), .int .i64 (moveF n t)]) ∧ w = w' := by
  by_cases hb : isB n = true
  · have h0 := isB_lo n hb
    have h14 := isB_hi n hb
    have eb : n % 8 = baseI n := by unfold baseI; rw [if_pos hb]; split <;> omega
    by_cases ht0 : 0 ≤ t
    · by_cases ht1 : t ≤ 6
      · by_cases hm : mayB (baseI n) t = true
        · by_cases h8 : n < 8
          · have e1 : moveI n t = t := by simp [moveI, hb, ht0, ht1, hm, h8]
            have e2 : moveF n t = 0 := by simp [moveF, hb, ht0, ht1, hm, h8]
            have e3 : n / 8 = 0 := by omega
            rw [e1, e2]; clear e1 e2
            go_enter Try.func41, Try.ntmps41
            go_wp2_with (first | (go_at_call 28; refine (ris_any _ _ hn).mono ?_; rintro e w' ⟨rfl, rfl⟩) | (go_at_call 45; refine (rmay_any _ _ _).mono ?_; rintro e w' ⟨rfl, rfl⟩))
            go_ret2
            exact ⟨rfl, rfl⟩
          · by_cases h1 : t = 1
            · subst h1
              have e1 : moveI n 1 = 9 := by simp [moveI, hb, hm, h8]
              have e2 : moveF n 1 = 0 := by simp [moveF, hb, hm]
              have e3 : n / 8 = 1 := by omega
              rw [e1, e2]; clear e1 e2
              go_enter Try.func41, Try.ntmps41
              go_wp2_with (first | (go_at_call 28; refine (ris_any _ _ hn).mono ?_; rintro e w' ⟨rfl, rfl⟩) | (go_at_call 45; refine (rmay_any _ _ _).mono ?_; rintro e w' ⟨rfl, rfl⟩))
              go_ret2
              exact ⟨rfl, rfl⟩
            · have e1 : moveI n t = 0 := by simp [moveI, hb, ht0, ht1, hm, h8, h1]
              have e2 : moveF n t = 7 := by simp [moveF, hb, ht0, ht1, hm, h8, h1]
              have hne : (t != 1) = true := by simpa using h1
              rw [e1, e2]; clear e1 e2 h1
              go_enter Try.func41, Try.ntmps41
              go_wp2_with (first | (go_at_call 28; refine (ris_any _ _ hn).mono ?_; rintro e w' ⟨rfl, rfl⟩) | (go_at_call 45; refine (rmay_any _ _ _).mono ?_; rintro e w' ⟨rfl, rfl⟩))
              go_ret2
              exact ⟨rfl, rfl⟩
        · have hm : mayB (baseI n) t = false := by simpa using hm
          have e1 : moveI n t = 0 := by simp [moveI, hm]
          have e2 : moveF n t = 9 := by simp [moveF, hb, ht0, ht1, hm]
          rw [e1, e2]; clear e1 e2
          go_enter Try.func41, Try.ntmps41
          go_wp2_with (first | (go_at_call 28; refine (ris_any _ _ hn).mono ?_; rintro e w' ⟨rfl, rfl⟩) | (go_at_call 45; refine (rmay_any _ _ _).mono ?_; rintro e w' ⟨rfl, rfl⟩))
          go_ret2
          exact ⟨rfl, rfl⟩
      · have e1 : moveI n t = 0 := by simp [moveI, ht1]
        have e2 : moveF n t = 1 := by simp [moveF, ht1]
        rw [e1, e2]; clear e1 e2
        go_enter Try.func41, Try.ntmps41
        go_wp2_with (first | (go_at_call 28; refine (ris_any _ _ hn).mono ?_; rintro e w' ⟨rfl, rfl⟩))
        go_ret2
        exact ⟨rfl, rfl⟩
    · have e1 : moveI n t = 0 := by simp [moveI, ht0]
      have e2 : moveF n t = 1 := by simp [moveF, ht0]
      rw [e1, e2]; clear e1 e2
      go_enter Try.func41, Try.ntmps41
      go_wp2_with (first | (go_at_call 28; refine (ris_any _ _ hn).mono ?_; rintro e w' ⟨rfl, rfl⟩))
      go_ret2
      exact ⟨rfl, rfl⟩
  · have hb : isB n = false := by simpa using hb
    have e1 : moveI n t = 0 := by simp [moveI, hb]
    have e2 : moveF n t = 1 := by simp [moveF, hb]
    rw [e1, e2]; clear e1 e2
    go_enter Try.func41, Try.ntmps41
    go_wp2_with (first | (go_at_call 28; refine (ris_any _ _ hn).mono ?_; rintro e w' ⟨rfl, rfl⟩))
    go_ret2
    exact ⟨rfl, rfl⟩
end Go.Proofs.Ythbpaggeajjepaa

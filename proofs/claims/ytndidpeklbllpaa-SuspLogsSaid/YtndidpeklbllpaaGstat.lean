/-
  Contracts of the functions of package gstat and of its reference escapementref18: each returns what a plain Lean function says and leaves the world as it was. Conditions: the word is an int.
-/
import Derived.Test.YtndidpeklbllpaaRows
import Derived.Test.YtndidpeklbllpaaBits
import Derived.WalkKit
import Derived.WalkSpells
import Derived.WalkLawsBesides
import Derived.Lib.Hide
namespace Go.Proofs.Ytndidpeklbllpaa
open Go.RowKit

/-- The statuses with which Scan goes. -/
def locksB (s : Int) : Bool := s == 1 || s == 3 || s == 4 || s == 5
/-- Is it a word? -/
def isB (w : Int) : Bool := decide (0 ≤ w ∧ w ≤ 6) || (decide (8 ≤ w ∧ w ≤ 14) && locksB (w - 8))
def baseI (w : Int) : Int := if isB w then (if w < 8 then w else w - 8) else 0
def scanB (w : Int) : Bool := isB w && decide (8 ≤ w)

theorem isB_lo (w : Int) (h : isB w = true) : 0 ≤ w := by
  simp [isB] at h; omega
theorem isB_hi (w : Int) (h : isB w = true) : w ≤ 14 := by
  simp [isB] at h; omega
theorem isB_cases (w : Int) (h : isB w = true) : w = 0 ∨ w = 1 ∨ w = 2 ∨ w = 3 ∨ w = 4 ∨ w = 5 ∨ w = 6 ∨ w = 9 ∨ w = 11 ∨ w = 12 ∨ w = 13 := by
  simp [isB, locksB] at h; omega

theorem status_t (s : Int) (w : World) (h0 : 0 ≤ s) (h1 : s ≤ 6) : Calls Try.prog 23 #[.int .i64 s] w fun e w' => e = .returned (.bool true) ∧ w = w' := by
  go_enter Try.func23, Try.ntmps23
  go_wp2
  go_ret
  exact ⟨rfl, rfl⟩
theorem status_f (s : Int) (w : World) (h : s < 0 ∨ 6 < s) : Calls Try.prog 23 #[.int .i64 s] w fun e w' => e = .returned (.bool false) ∧ w = w' := by
  rcases h with h | h
  · go_enter Try.func23, Try.ntmps23
    go_wp2
    go_ret
    exact ⟨rfl, rfl⟩
  · have h' : 0 ≤ s := by omega
    go_enter Try.func23, Try.ntmps23
    go_wp2
    go_ret
    exact ⟨by simp; omega, rfl⟩
/-- bit, of a status. -/
theorem bit_any (s : Int) (w : World) (h0 : 0 ≤ s) (h1 : s ≤ 62) : Calls Try.prog 24 #[.int .i64 s] w fun e w' => e = .returned (.int .i64 (2 ^ s.toNat)) ∧ w = w' := by
  go_enter Try.func24, Try.ntmps24
  go_wp2
  go_ret
  refine ⟨?_, rfl⟩
  have h : wrap64 ((2 : Int) ^ s.toNat) = 2 ^ s.toNat := by
    apply IntWalk.wrap64_in
    have h3 : (2 : Nat) ^ s.toNat ≤ 2 ^ 62 := Nat.pow_le_pow_right (by omega) (by omega)
    have h4 : ((2 : Int) ^ s.toNat) = ((2 ^ s.toNat : Nat) : Int) := by simp
    rw [h4]
    generalize 2 ^ s.toNat = m at h3
    constructor <;> omega
  simp [h]
theorem is_out (n : Int) (w : World) (hn : I64 n) (h : n < 0 ∨ 15 < n) : Calls Try.prog 16 #[.int .i64 n] w fun e w' => e = .returned (.bool false) ∧ w = w' := by
  have hb : bits .andNot .i64 n 8 < 0 ∨ 6 < bits .andNot .i64 n 8 := by
    rcases andNot8 n hn.1 hn.2 with ⟨h1, _⟩ | ⟨h1, _⟩ <;> omega
  have HB := Lib.hid hb
  clear hb h hn
  go_enter Try.func16, Try.ntmps16
  go_wp2_with (go_at_call 23; refine (status_f _ _ HB.out).mono ?_; rintro e w' ⟨rfl, rfl⟩)
  go_ret
  exact ⟨rfl, rfl⟩
theorem an_lo (n : Int) (h0 : 0 ≤ n) (h1 : n ≤ 7) : bits .andNot .i64 n 8 = n := by
  rcases low16 n h0 (by omega) with rfl | rfl | rfl | rfl | rfl | rfl | rfl | rfl | rfl | rfl | rfl | rfl | rfl | rfl | rfl | rfl <;> first | decide | omega
theorem an_hi (n : Int) (h0 : 8 ≤ n) (h1 : n ≤ 15) : bits .andNot .i64 n 8 = n - 8 := by
  rcases low16 n (by omega) (by omega) with rfl | rfl | rfl | rfl | rfl | rfl | rfl | rfl | rfl | rfl | rfl | rfl | rfl | rfl | rfl | rfl <;> first | decide | omega
theorem locks_bit (s : Int) (h0 : 0 ≤ s) (h1 : s ≤ 6) : (bits .and .i64 58 (2 ^ s.toNat) != 0) = locksB s := by
  rcases low16 s h0 (by omega) with rfl | rfl | rfl | rfl | rfl | rfl | rfl | rfl | rfl | rfl | rfl | rfl | rfl | rfl | rfl | rfl <;> first | decide | omega
theorem is_lo (n : Int) (w : World) (h0 : 0 ≤ n) (h1 : n ≤ 6) : Calls Try.prog 16 #[.int .i64 n] w fun e w' => e = .returned (.bool true) ∧ w = w' := by
  have hb := an_lo n h0 (by omega)
  go_enter Try.func16, Try.ntmps16
  go_wp2_with (go_at_call 23; refine (status_t _ _ h0 h1).mono ?_; rintro e w' ⟨rfl, rfl⟩)
  go_ret
  exact ⟨rfl, rfl⟩
theorem is_mid (n : Int) (w : World) (h : n = 7 ∨ n = 15) : Calls Try.prog 16 #[.int .i64 n] w fun e w' => e = .returned (.bool false) ∧ w = w' := by
  have hb : bits .andNot .i64 n 8 = 7 := by rcases h with rfl | rfl <;> decide
  clear h
  go_enter Try.func16, Try.ntmps16
  go_wp2_with (go_at_call 23; refine (status_f _ _ (by omega)).mono ?_; rintro e w' ⟨rfl, rfl⟩)
  go_ret
  exact ⟨rfl, rfl⟩
theorem is_hi (n : Int) (w : World) (h0 : 8 ≤ n) (h1 : n ≤ 14) : Calls Try.prog 16 #[.int .i64 n] w fun e w' => e = .returned (.bool (locksB (n - 8))) ∧ w = w' := by
  have hb := an_hi n h0 (by omega)
  have he : (n == n - 8) = false := beq_eq_false_iff_ne.2 (by omega)
  have hl := locks_bit (n - 8) (by omega) (by omega)
  go_enter Try.func16, Try.ntmps16
  go_wp2_with (first | (go_at_call 23; refine (status_t _ _ (by omega) (by omega)).mono ?_; rintro e w' ⟨rfl, rfl⟩) | (go_at_call 24; refine (bit_any _ _ (by omega) (by omega)).mono ?_; rintro e w' ⟨rfl, rfl⟩))
  go_ret
  exact ⟨rfl, rfl⟩
theorem is_any (n : Int) (w : World) (hn : I64 n) : Calls Try.prog 16 #[.int .i64 n] w fun e w' => e = .returned (.bool (isB n)) ∧ w = w' := by
  by_cases h : n < 0 ∨ 15 < n
  · have : isB n = false := by simp [isB]; omega
    rw [this]; exact is_out n w hn h
  · by_cases h1 : n ≤ 6
    · have : isB n = true := by simp [isB]; omega
      rw [this]; exact is_lo n w (by omega) h1
    · by_cases h2 : n = 7 ∨ n = 15
      · have : isB n = false := by simp [isB]; omega
        rw [this]; exact is_mid n w h2
      · have : isB n = locksB (n - 8) := by simp only [isB]; rw [decide_eq_false (by omega), decide_eq_true (by omega)]; simp
        rw [this]; exact is_hi n w (by omega) (by omega)
theorem base_any (n : Int) (w : World) (hn : I64 n) : Calls Try.prog 19 #[.int .i64 n] w fun e w' => e = .returned (.int .i64 (baseI n)) ∧ w = w' := by
  by_cases hb : isB n = true
  · have h0 := isB_lo n hb
    have h1 := isB_hi n hb
    by_cases h8 : n < 8
    · have ha := an_lo n h0 (by omega)
      have hr : baseI n = n := by simp [baseI, hb, h8]
      go_enter Try.func19, Try.ntmps19
      go_wp2_with (go_at_call 16; refine (is_any _ _ hn).mono ?_; rintro e w' ⟨rfl, rfl⟩)
      go_ret
      exact ⟨by rw [hr]; rfl, rfl⟩
    · have ha := an_hi n (by omega) (by omega)
      have hr : baseI n = n - 8 := by simp [baseI, hb, h8]
      go_enter Try.func19, Try.ntmps19
      go_wp2_with (go_at_call 16; refine (is_any _ _ hn).mono ?_; rintro e w' ⟨rfl, rfl⟩)
      go_ret
      exact ⟨by rw [hr]; rfl, rfl⟩
  · have hb : isB n = false := by simpa using hb
    have hr : baseI n = 0 := by simp [baseI, hb]
    go_enter Try.func19, Try.ntmps19
    go_wp2_with (go_at_call 16; refine (is_any _ _ hn).mono ?_; rintro e w' ⟨rfl, rfl⟩)
    go_ret
    exact ⟨by rw [hr]; rfl, rfl⟩
theorem and8_lo (n : Int) (h0 : 0 ≤ n) (h1 : n ≤ 7) : bits .and .i64 n 8 = 0 := by
  rcases low16 n h0 (by omega) with rfl | rfl | rfl | rfl | rfl | rfl | rfl | rfl | rfl | rfl | rfl | rfl | rfl | rfl | rfl | rfl <;> first | decide | omega
theorem and8_hi (n : Int) (h0 : 8 ≤ n) (h1 : n ≤ 15) : bits .and .i64 n 8 = 8 := by
  rcases low16 n (by omega) (by omega) with rfl | rfl | rfl | rfl | rfl | rfl | rfl | rfl | rfl | rfl | rfl | rfl | rfl | rfl | rfl | rfl <;> first | decide | omega
theorem or8_lo (n : Int) (h0 : 0 ≤ n) (h1 : n ≤ 7) : bits .or .i64 n 8 = n + 8 := by
  rcases low16 n h0 (by omega) with rfl | rfl | rfl | rfl | rfl | rfl | rfl | rfl | rfl | rfl | rfl | rfl | rfl | rfl | rfl | rfl <;> first | decide | omega
theorem or0_lo (n : Int) (h0 : 0 ≤ n) (h1 : n ≤ 7) : bits .or .i64 n 0 = n := by
  rcases low16 n h0 (by omega) with rfl | rfl | rfl | rfl | rfl | rfl | rfl | rfl | rfl | rfl | rfl | rfl | rfl | rfl | rfl | rfl <;> first | decide | omega
theorem scanned_any (n : Int) (w : World) (hn : I64 n) : Calls Try.prog 17 #[.int .i64 n] w fun e w' => e = .returned (.bool (scanB n)) ∧ w = w' := by
  by_cases hb : isB n = true
  · have h0 := isB_lo n hb
    have h1 := isB_hi n hb
    by_cases h8 : n < 8
    · have ha := and8_lo n h0 (by omega)
      have hr : scanB n = false := by simp [scanB, h8]
      go_enter Try.func17, Try.ntmps17
      go_wp2_with (go_at_call 16; refine (is_any _ _ hn).mono ?_; rintro e w' ⟨rfl, rfl⟩)
      go_ret
      exact ⟨by rw [hr]; rfl, rfl⟩
    · have ha := and8_hi n (by omega) (by omega)
      have hr : scanB n = true := by simp [scanB, hb]; omega
      go_enter Try.func17, Try.ntmps17
      go_wp2_with (go_at_call 16; refine (is_any _ _ hn).mono ?_; rintro e w' ⟨rfl, rfl⟩)
      go_ret
      exact ⟨by rw [hr]; rfl, rfl⟩
  · have hb : isB n = false := by simpa using hb
    have hr : scanB n = false := by simp [scanB, hb]
    go_enter Try.func17, Try.ntmps17
    go_wp2_with (go_at_call 16; refine (is_any _ _ hn).mono ?_; rintro e w' ⟨rfl, rfl⟩)
    go_ret
    exact ⟨by rw [hr]; rfl, rfl⟩

/-- What Lock answers: the word then, and the fault. -/
def lockI (n : Int) : Int := if isB n && decide (n < 8) && locksB n then n + 8 else 0
def lockF (n : Int) : Int := if isB n then (if 8 ≤ n then 7 else if locksB n then 0 else 9) else 1
def unlockI (n : Int) : Int := if isB n && decide (8 ≤ n) then n - 8 else 0
def unlockF (n : Int) : Int := if isB n then (if 8 ≤ n then 0 else 9) else 1
theorem locks_bit0 (s : Int) (h0 : 0 ≤ s) (h1 : s ≤ 6) : (bits .and .i64 58 (2 ^ s.toNat) == 0) = !locksB s := by
  rw [← locks_bit s h0 h1, bne, Bool.not_not]
theorem lock_any (n : Int) (w : World) (hn : I64 n) : Calls Try.prog 18 #[.int .i64 n] w fun e w' => e = .returned (.tuple #[.int .i64 (lockI n), .int .i64 (lockF n)]) ∧ w = w' := by
  by_cases hb : isB n = true
  · have h0 := isB_lo n hb
    have h1 := isB_hi n hb
    by_cases h8 : n < 8
    · have h6 : n ≤ 6 := by have := isB_cases n hb; omega
      have hs : scanB n = false := by simp [scanB, h8]
      have hl := locks_bit0 n h0 h6
      have ho := or8_lo n h0 (by omega)
      by_cases hk : locksB n = true
      · have e1 : lockI n = n + 8 := by simp [lockI, hb, h8, hk]
        have e2 : lockF n = 0 := by simp [lockF, hb, hk]; omega
        rw [e1, e2]; clear e1 e2
        go_enter Try.func18, Try.ntmps18
        go_wp2_with (first | (go_at_call 16; refine (is_any _ _ hn).mono ?_; rintro e w' ⟨rfl, rfl⟩) | (go_at_call 17; refine (scanned_any _ _ hn).mono ?_; rintro e w' ⟨rfl, rfl⟩) | (go_at_call 24; refine (bit_any _ _ (by omega) (by omega)).mono ?_; rintro e w' ⟨rfl, rfl⟩))
        go_ret2
        exact ⟨rfl, rfl⟩
      · have hk : locksB n = false := by simpa using hk
        have e1 : lockI n = 0 := by simp [lockI, hk]
        have e2 : lockF n = 9 := by simp [lockF, hb, hk]; omega
        rw [e1, e2]; clear e1 e2
        go_enter Try.func18, Try.ntmps18
        go_wp2_with (first | (go_at_call 16; refine (is_any _ _ hn).mono ?_; rintro e w' ⟨rfl, rfl⟩) | (go_at_call 17; refine (scanned_any _ _ hn).mono ?_; rintro e w' ⟨rfl, rfl⟩) | (go_at_call 24; refine (bit_any _ _ (by omega) (by omega)).mono ?_; rintro e w' ⟨rfl, rfl⟩))
        go_ret2
        exact ⟨rfl, rfl⟩
    · have hs : scanB n = true := by simp [scanB, hb]; omega
      have e1 : lockI n = 0 := by simp [lockI]; omega
      have e2 : lockF n = 7 := by simp [lockF, hb]; omega
      rw [e1, e2]; clear e1 e2
      go_enter Try.func18, Try.ntmps18
      go_wp2_with (first | (go_at_call 16; refine (is_any _ _ hn).mono ?_; rintro e w' ⟨rfl, rfl⟩) | (go_at_call 17; refine (scanned_any _ _ hn).mono ?_; rintro e w' ⟨rfl, rfl⟩))
      go_ret2
      exact ⟨rfl, rfl⟩
  · have hb : isB n = false := by simpa using hb
    have e1 : lockI n = 0 := by simp [lockI, hb]
    have e2 : lockF n = 1 := by simp [lockF, hb]
    rw [e1, e2]; clear e1 e2
    go_enter Try.func18, Try.ntmps18
    go_wp2_with (first | (go_at_call 16; refine (is_any _ _ hn).mono ?_; rintro e w' ⟨rfl, rfl⟩))
    go_ret2
    exact ⟨rfl, rfl⟩
end Go.Proofs.Ytndidpeklbllpaa

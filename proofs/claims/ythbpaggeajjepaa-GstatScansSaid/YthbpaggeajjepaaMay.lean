/-
  Contracts of gstat.follows, gstat.May, gstat.Move.
-/
import Derived.Test.YthbpaggeajjepaaGstat
import Derived.Test.YthbpaggeajjepaaCalm
namespace Go.Proofs.Ythbpaggeajjepaa
open Go.RowKit
theorem follows_any (w : World) : Calls Try.prog 53 #[] w fun e w' => e = .returned (.agg #[.int .i64 2, .int .i64 36, .int .i64 122, .int .i64 6, .int .i64 2, .int .i64 2, .int .i64 0]) ∧ Below w.heap.size w w' := by
  have e1 : bits .or .i64 4 32 = 36 := by decide
  have e2 : bits .or .i64 2 8 = 10 := by decide
  have e3 : bits .or .i64 10 16 = 26 := by decide
  have e4 : bits .or .i64 26 32 = 58 := by decide
  have e5 : bits .or .i64 58 64 = 122 := by decide
  have e6 : bits .or .i64 4 2 = 6 := by decide
  go_enter Try.func53, Try.ntmps53
  go_wp2_with (go_at_call 51; refine (bit_any _ _ (by omega) (by omega)).mono ?_; rintro e w' ⟨rfl, rfl⟩)
  exact bodyPost_ret (v := .agg #[.int .i64 2, .int .i64 36, .int .i64 122, .int .i64 6, .int .i64 2, .int .i64 2, .int .i64 0]) (by simp [results, Try.results53, go_sem]) rfl ⟨rfl, (Below.refl _ _).alloc (Nat.le_refl _) _⟩
theorem ret_bool {a b : Bool} (h : a = b) : Ending.returned (.bool a) = .returned (.bool b) := by rw [h]
theorem may_f1 (f t : Int) (w : World) (h : f < 0 ∨ 6 < f) : Calls Try.prog 44 #[.int .i64 f, .int .i64 t] w fun e w' => e = .returned (.bool false) ∧ Below w.heap.size w w' := by
  have H := Lib.hid h
  clear h
  go_enter Try.func44, Try.ntmps44
  go_wp2_with fail
  refine region_below w w.heap.size (by kernel_rfl) (by kernel_rfl) (Below.refl _ _) ?_
  repeat (first | go_big_quiet_skip | (go_big_quiet_want; go_big_quiet_op; first | go_big_quiet_on | ((first | with_reducible refine ⟨_, fun _ _ => rfl, ?_⟩ | with_reducible refine ⟨_, fun w' hw' => calm_of_same hw' (status_f _ _ H.out), ?_⟩); go_big_quiet_on)))
  refine wpQuiet_nil ?_
  intro w1 hw1
  go_wp2
  go_ret
  exact ⟨rfl, hw1⟩
theorem may_f2 (f t : Int) (w : World) (h0 : 0 ≤ f) (h1 : f ≤ 6) (h : t < 0 ∨ 6 < t) : Calls Try.prog 44 #[.int .i64 f, .int .i64 t] w fun e w' => e = .returned (.bool false) ∧ Below w.heap.size w w' := by
  have H := Lib.hid h
  clear h
  go_enter Try.func44, Try.ntmps44
  go_wp2_with fail
  refine region_below w w.heap.size (by kernel_rfl) (by kernel_rfl) (Below.refl _ _) ?_
  repeat (first | go_big_quiet_skip | (go_big_quiet_want; go_big_quiet_op; first | go_big_quiet_on | ((first | with_reducible refine ⟨_, fun _ _ => rfl, ?_⟩ | with_reducible refine ⟨_, fun w' hw' => calm_of_same hw' (status_t _ _ h0 h1), ?_⟩ | with_reducible refine ⟨_, fun w' hw' => calm_of_same hw' (status_f _ _ H.out), ?_⟩); go_big_quiet_on)))
  refine wpQuiet_nil ?_
  intro w1 hw1
  go_wp2
  go_ret
  exact ⟨rfl, hw1⟩
/-- Which status may follow which. -/
def mayB (f t : Int) : Bool := if f = 0 ∨ f = 4 ∨ f = 5 then t == 1 else if f = 1 then t == 2 || t == 5 else if f = 2 then t == 1 || (decide (3 ≤ t) && decide (t ≤ 6)) else if f = 3 then t == 1 || t == 2 else false
theorem may_in (f t : Int) (x : Int) (w : World) (h0 : 0 ≤ f) (h1 : f ≤ 6) (h2 : 0 ≤ t) (h3 : t ≤ 6) 
    (hx : ∀ W : World, (Instr.index 69 (.agg #[.int .i64 2, .int .i64 36, .int .i64 122, .int .i64 6, .int .i64 2, .int .i64 2, .int .i64 0]) (.int .i64 f)).run Try.prog W = .ok (.int .i64 x) W)
    : Calls Try.prog 44 #[.int .i64 f, .int .i64 t] w fun e w' => e = .returned (.bool (bits .and .i64 x (2 ^ t.toNat) != 0)) ∧ Below w.heap.size w w' := by
  go_enter Try.func44, Try.ntmps44
  go_wp2_with fail
  refine region_below w w.heap.size (by kernel_rfl) (by kernel_rfl) (Below.refl _ _) ?_
  repeat (first | go_big_quiet_skip | (go_big_quiet_want; go_big_quiet_op; first | go_big_quiet_on | ((first | with_reducible refine ⟨_, fun _ _ => rfl, ?_⟩ | with_reducible refine ⟨_, fun w' hw' => calm_of_same hw' (status_t _ _ h0 h1), ?_⟩ | with_reducible refine ⟨_, fun w' hw' => calm_of_same hw' (status_t _ _ h2 h3), ?_⟩ | with_reducible refine ⟨_, fun w' hw' => calm_of hw' (Nat.le_refl _) (follows_any _), ?_⟩ | with_reducible refine ⟨_, fun w' hw' => calm_of_same hw' (bit_any _ _ h2 (by omega)), ?_⟩); go_big_quiet_on)))
  refine wpQuiet_nil ?_
  intro w1 hw1
  go_wp2
  go_ret
  exact ⟨rfl, hw1⟩
theorem may_any (f t : Int) (w : World) : Calls Try.prog 44 #[.int .i64 f, .int .i64 t] w fun e w' => e = .returned (.bool (mayB f t)) ∧ Below w.heap.size w w' := by
  by_cases h : f < 0 ∨ 6 < f
  · have e : mayB f t = false := by
      unfold mayB
      rw [if_neg (by omega), if_neg (by omega), if_neg (by omega), if_neg (by omega)]
    rw [e]; exact may_f1 f t w h
  · by_cases h' : t < 0 ∨ 6 < t
    · have e : mayB f t = false := by
        simp only [mayB]; repeat' split
        all_goals simp
        all_goals omega
      rw [e]; exact may_f2 f t w (by omega) (by omega) h'
    · have h2 : 0 ≤ t := by omega
      have h3 : t ≤ 6 := by omega
      have hf : f = 0 ∨ f = 1 ∨ f = 2 ∨ f = 3 ∨ f = 4 ∨ f = 5 ∨ f = 6 := by omega
      have ht : t = 0 ∨ t = 1 ∨ t = 2 ∨ t = 3 ∨ t = 4 ∨ t = 5 ∨ t = 6 := by omega
      rcases hf with rfl | rfl | rfl | rfl | rfl | rfl | rfl
      · refine (may_in 0 t 2 w (by omega) (by omega) h2 h3 (fun _ => by kernel_rfl)).mono fun e w' ⟨he, hb⟩ => ⟨?_, hb⟩
        rw [he]; refine ret_bool ?_; rcases ht with rfl | rfl | rfl | rfl | rfl | rfl | rfl <;> decide
      · refine (may_in 1 t 36 w (by omega) (by omega) h2 h3 (fun _ => by kernel_rfl)).mono fun e w' ⟨he, hb⟩ => ⟨?_, hb⟩
        rw [he]; refine ret_bool ?_; rcases ht with rfl | rfl | rfl | rfl | rfl | rfl | rfl <;> decide
      · refine (may_in 2 t 122 w (by omega) (by omega) h2 h3 (fun _ => by kernel_rfl)).mono fun e w' ⟨he, hb⟩ => ⟨?_, hb⟩
        rw [he]; refine ret_bool ?_; rcases ht with rfl | rfl | rfl | rfl | rfl | rfl | rfl <;> decide
      · refine (may_in 3 t 6 w (by omega) (by omega) h2 h3 (fun _ => by kernel_rfl)).mono fun e w' ⟨he, hb⟩ => ⟨?_, hb⟩
        rw [he]; refine ret_bool ?_; rcases ht with rfl | rfl | rfl | rfl | rfl | rfl | rfl <;> decide
      · refine (may_in 4 t 2 w (by omega) (by omega) h2 h3 (fun _ => by kernel_rfl)).mono fun e w' ⟨he, hb⟩ => ⟨?_, hb⟩
        rw [he]; refine ret_bool ?_; rcases ht with rfl | rfl | rfl | rfl | rfl | rfl | rfl <;> decide
      · refine (may_in 5 t 2 w (by omega) (by omega) h2 h3 (fun _ => by kernel_rfl)).mono fun e w' ⟨he, hb⟩ => ⟨?_, hb⟩
        rw [he]; refine ret_bool ?_; rcases ht with rfl | rfl | rfl | rfl | rfl | rfl | rfl <;> decide
      · refine (may_in 6 t 0 w (by omega) (by omega) h2 h3 (fun _ => by kernel_rfl)).mono fun e w' ⟨he, hb⟩ => ⟨?_, hb⟩
        rw [he]; refine ret_bool ?_; rcases ht with rfl | rfl | rfl | rfl | rfl | rfl | rfl <;> decide
/-- What Move answers. -/
def moveI (n t : Int) : Int := if isB n && decide (0 ≤ t ∧ t ≤ 6) && mayB (baseI n) t then (if n < 8 then t else if t = 1 then 9 else 0) else 0
def moveF (n t : Int) : Int := if isB n && decide (0 ≤ t ∧ t ≤ 6) then (if mayB (baseI n) t then (if n < 8 ∨ t = 1 then 0 else 7) else 9) else 1
theorem move_any (n t : Int) (w : World) (hn : I64 n) : Calls Try.prog 40 #[.int .i64 n, .int .i64 t] w fun e w' => e = .returned (.tuple #[.int .i64 (moveI n t), .int .i64 (moveF n t)]) ∧ Below w.heap.size w w' := by
  by_cases hb : isB n = true
  · by_cases ht : 0 ≤ t ∧ t ≤ 6
    · obtain ⟨ht0, ht1⟩ := ht
      by_cases hm : mayB (baseI n) t = true
      · by_cases h8 : n < 8
        · have hs : scanB n = false := by simp [scanB, h8]
          have e1 : moveI n t = t := by simp [moveI, hb, ht0, ht1, hm, h8]
          have e2 : moveF n t = 0 := by simp [moveF, hb, ht0, ht1, hm, h8]
          have hz := and8_lo n (isB_lo n hb) (by omega)
          have ho := or0_lo t ht0 (by omega)
          rw [e1, e2]; clear e1 e2
          go_enter Try.func40, Try.ntmps40
          go_wp2_with (first | (go_at_call 27; refine (is_any _ _ hn).mono ?_; rintro e w' ⟨rfl, rfl⟩) | (go_at_call 50; refine (status_t _ _ ht0 ht1).mono ?_; rintro e w' ⟨rfl, rfl⟩) | (go_at_call 29; refine (base_any _ _ hn).mono ?_; rintro e w' ⟨rfl, rfl⟩) | (go_at_call 44; refine (may_any _ _ _).mono ?_; rintro e w1 ⟨rfl, hb1⟩) | (go_at_call 31; refine (scanned_any _ _ hn).mono ?_; rintro e w' ⟨rfl, rfl⟩))
          go_ret2
          exact ⟨rfl, hb1⟩
        · have hs : scanB n = true := by simp [scanB, hb]; omega
          by_cases h1 : t = 1
          · subst h1
            have e1 : moveI n 1 = 9 := by simp [moveI, hb, hm, h8]
            have e2 : moveF n 1 = 0 := by simp [moveF, hb, hm]
            have hz := and8_hi n (by omega) (by have := isB_hi n hb; omega)
            have ho : bits .or .i64 1 8 = 9 := by decide
            rw [e1, e2]; clear e1 e2
            go_enter Try.func40, Try.ntmps40
            go_wp2_with (first | (go_at_call 27; refine (is_any _ _ hn).mono ?_; rintro e w' ⟨rfl, rfl⟩) | (go_at_call 50; refine (status_t _ _ ht0 ht1).mono ?_; rintro e w' ⟨rfl, rfl⟩) | (go_at_call 29; refine (base_any _ _ hn).mono ?_; rintro e w' ⟨rfl, rfl⟩) | (go_at_call 44; refine (may_any _ _ _).mono ?_; rintro e w1 ⟨rfl, hb1⟩) | (go_at_call 31; refine (scanned_any _ _ hn).mono ?_; rintro e w' ⟨rfl, rfl⟩))
            go_ret2
            exact ⟨rfl, hb1⟩
          · have e1 : moveI n t = 0 := by simp [moveI, hb, ht0, ht1, hm, h8, h1]
            have e2 : moveF n t = 7 := by simp [moveF, hb, ht0, ht1, hm, h8, h1]
            have hne : (t != 1) = true := by simpa using h1
            rw [e1, e2]; clear e1 e2 h1
            go_enter Try.func40, Try.ntmps40
            go_wp2_with (first | (go_at_call 27; refine (is_any _ _ hn).mono ?_; rintro e w' ⟨rfl, rfl⟩) | (go_at_call 50; refine (status_t _ _ ht0 ht1).mono ?_; rintro e w' ⟨rfl, rfl⟩) | (go_at_call 29; refine (base_any _ _ hn).mono ?_; rintro e w' ⟨rfl, rfl⟩) | (go_at_call 44; refine (may_any _ _ _).mono ?_; rintro e w1 ⟨rfl, hb1⟩) | (go_at_call 31; refine (scanned_any _ _ hn).mono ?_; rintro e w' ⟨rfl, rfl⟩))
            go_ret2
            exact ⟨rfl, hb1⟩
      · have hm : mayB (baseI n) t = false := by simpa using hm
        have e1 : moveI n t = 0 := by simp [moveI, hm]
        have e2 : moveF n t = 9 := by simp [moveF, hb, ht0, ht1, hm]
        rw [e1, e2]; clear e1 e2
        go_enter Try.func40, Try.ntmps40
        go_wp2_with (first | (go_at_call 27; refine (is_any _ _ hn).mono ?_; rintro e w' ⟨rfl, rfl⟩) | (go_at_call 50; refine (status_t _ _ ht0 ht1).mono ?_; rintro e w' ⟨rfl, rfl⟩) | (go_at_call 29; refine (base_any _ _ hn).mono ?_; rintro e w' ⟨rfl, rfl⟩) | (go_at_call 44; refine (may_any _ _ _).mono ?_; rintro e w1 ⟨rfl, hb1⟩))
        go_ret2
        exact ⟨rfl, hb1⟩
    · have e1 : moveI n t = 0 := by simp [moveI, ht]
      have e2 : moveF n t = 1 := by simp [moveF, ht]
      have ht' : t < 0 ∨ 6 < t := by omega
      have HT := Lib.hid ht'
      rw [e1, e2]; clear e1 e2 ht ht'
      go_enter Try.func40, Try.ntmps40
      go_wp2_with (first | (go_at_call 27; refine (is_any _ _ hn).mono ?_; rintro e w' ⟨rfl, rfl⟩) | (go_at_call 50; refine (status_f _ _ HT.out).mono ?_; rintro e w' ⟨rfl, rfl⟩))
      go_ret2
      exact ⟨rfl, Below.refl _ _⟩
  · have hb : isB n = false := by simpa using hb
    have e1 : moveI n t = 0 := by simp [moveI, hb]
    have e2 : moveF n t = 1 := by simp [moveF, hb]
    rw [e1, e2]; clear e1 e2
    go_enter Try.func40, Try.ntmps40
    go_wp2_with (first | (go_at_call 27; refine (is_any _ _ hn).mono ?_; rintro e w' ⟨rfl, rfl⟩))
    go_ret2
    exact ⟨rfl, Below.refl _ _⟩
end Go.Proofs.Ythbpaggeajjepaa

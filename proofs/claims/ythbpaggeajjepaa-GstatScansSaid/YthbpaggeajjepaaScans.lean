/-
  The law GstatScans as a contract: of any acts on a word it returns true.
-/
import Derived.Test.YthbpaggeajjepaaLaw18
import Derived.Test.YthbpaggeajjepaaMem
namespace Go.Proofs.Ythbpaggeajjepaa
open Go.RowKit
theorem small7 (t : Int) (h0 : 0 ≤ t) (h1 : t ≤ 6) : t = 0 ∨ t = 1 ∨ t = 2 ∨ t = 3 ∨ t = 4 ∨ t = 5 ∨ t = 6 := by omega
theorem move_zero (n t : Int) (h : moveF n t ≠ 0) : moveI n t = 0 := by
  unfold moveF at h
  unfold moveI
  by_cases h1 : (isB n && decide (0 ≤ t ∧ t ≤ 6)) = true
  · rw [h1, if_pos rfl] at h
    rw [h1, Bool.true_and]
    by_cases h2 : mayB (baseI n) t = true
    · rw [if_pos h2] at h ⊢
      by_cases h3 : n < 8
      · simp [h3] at h
      · by_cases h4 : t = 1
        · simp [h4] at h
        · rw [if_neg h3, if_neg h4]
    · rw [if_neg h2]
  · simp only [Bool.not_eq_true] at h1
    rw [h1]; simp
theorem move_ok (n t : Int) (hb : isB n = true) (h : moveF n t = 0) : isB (moveI n t) = true ∧ scanB (moveI n t) = scanB n ∧ (scanB n = true → baseI (moveI n t) ≠ 2) := by
  by_cases ht : 0 ≤ t ∧ t ≤ 6
  · rcases isB_cases n hb with rfl | rfl | rfl | rfl | rfl | rfl | rfl | rfl | rfl | rfl | rfl <;> rcases small7 t ht.1 ht.2 with rfl | rfl | rfl | rfl | rfl | rfl | rfl <;> revert h <;> decide
  · simp [moveF, ht] at h
theorem unlock_zero (n : Int) (h : unlockF n ≠ 0) : unlockI n = 0 := by
  unfold unlockF at h
  unfold unlockI
  by_cases hb : isB n = true
  · by_cases h8 : 8 ≤ n
    · simp [hb, h8] at h
    · simp [h8]
  · simp [hb]
theorem unlock_ok (n : Int) (h : unlockF n = 0) : isB (unlockI n) = true ∧ scanB (unlockI n) = false := by
  by_cases hb : isB n = true
  · rcases isB_cases n hb with rfl | rfl | rfl | rfl | rfl | rfl | rfl | rfl | rfl | rfl | rfl <;> revert h <;> decide
  · simp [unlockF, hb] at h
theorem lock_zero (n : Int) (h : lockF n ≠ 0) : lockI n = 0 := by
  unfold lockF at h
  unfold lockI
  by_cases hb : isB n = true
  · by_cases h8 : 8 ≤ n
    · simp; omega
    · by_cases hl : locksB n = true
      · simp [hb, h8, hl] at h
      · simp [hl]
  · simp [hb]
theorem lock_ok (n : Int) (h : lockF n = 0) : isB (lockI n) = true ∧ scanB (lockI n) = true ∧ baseI (lockI n) ≠ 2 := by
  by_cases hb : isB n = true
  · rcases isB_cases n hb with rfl | rfl | rfl | rfl | rfl | rfl | rfl | rfl | rfl | rfl | rfl <;> revert h <;> decide
  · simp [lockF, hb] at h
theorem i64_is (n : Int) (h : isB n = true) : I64 n := ⟨by have := isB_lo n h; omega, by have := isB_hi n h; omega⟩
set_option maxHeartbeats 4000000 in
theorem scans_law (A : Option Addr) (n c : Nat) (zs : List Int) (w : World) (hn : zs.length = n) (hr : Row w w.heap.size A (ints zs)) :
    Calls Try.prog 10 #[.slice A n c] w fun e w' => e = .returned (.bool true) ∧ Below w.heap.size w w' := by

  by_cases h100 : 100 < n
  · go_enter Try.func10, Try.ntmps10
    go_wp2_with (go_at_call 34; refine (alive18 _).mono ?_; rintro e w1 ⟨rfl, hb1⟩)
    go_ret
    exact ⟨rfl, hb1⟩
  · have HL := Lib.hid hn
    clear hn
    go_enter Try.func10, Try.ntmps10
    go_wp2_with fail
    go_loopw [3, 4, 5] (fun vw vh vi wr => ∃ (k : Nat) (x : Int), k ≤ n ∧ vi = .int .i64 k ∧ vw = .int .i64 x ∧ vh = .bool (scanB x) ∧ isB x = true ∧ Below w.heap.size w wr) (fun _ _ vi _ => n - (intOf vi).toNat)
    case atStart => exact ⟨0, 0, Nat.zero_le _, rfl, rfl, rfl, by decide, Below.refl _ _⟩
    case round =>
      obtain ⟨k, x, hk, rfl, rfl, rfl, hx, hb⟩ := hrel
      by_cases hlt : k < n
      · obtain ⟨b, off, rfl, hbb, hcell⟩ := (hr.below hb).at_ (k := k) (by have := HL.out; simp [ints]; omega)
        have hc0 := hcell k _ (ints_at_ zs k (by have := HL.out; omega))
        generalize zs[k]'(by have := HL.out; omega) = t at hc0
        have HX := Lib.hid (i64_is x hx)
        have HI := Lib.hid hx
        clear hcell hr hbb hx
        by_cases ht0 : t < 0
        · by_cases hf : unlockF x = 0
          · obtain ⟨i1, i2⟩ := unlock_ok x hf
            have HY := Lib.hid (i64_is _ i1)
            go_wp2_with (first | (go_at_call 40; refine (move_any _ _ _ HX.out).mono ?_; rintro e w1 ⟨rfl, hb1⟩) | (go_at_call 39; refine (unlock_any _ _ HX.out).mono ?_; rintro e w' ⟨rfl, rfl⟩) | (go_at_call 37; refine (lock_any _ _ HX.out).mono ?_; rintro e w' ⟨rfl, rfl⟩) | (go_at_call 27; refine (is_any _ _ HY.out).mono ?_; rintro e w' ⟨rfl, rfl⟩) | (go_at_call 31; refine (scanned_any _ _ HY.out).mono ?_; rintro e w' ⟨rfl, rfl⟩) | (go_at_call 29; refine (base_any _ _ HY.out).mono ?_; rintro e w' ⟨rfl, rfl⟩))
            go_roundw
            case rel => exact ⟨k + 1, _, by omega, by go_num, rfl, by rw [i2], i1, hb.trans (hb1.mono hb.size)⟩
            case measure => simp [intOf]; omega
          · have h0 := unlock_zero x hf
            have hf' : (unlockF x != 0) = true := by simpa using hf
            have HY := HX
            clear hf
            go_wp2_with (first | (go_at_call 40; refine (move_any _ _ _ HX.out).mono ?_; rintro e w1 ⟨rfl, hb1⟩) | (go_at_call 39; refine (unlock_any _ _ HX.out).mono ?_; rintro e w' ⟨rfl, rfl⟩) | (go_at_call 37; refine (lock_any _ _ HX.out).mono ?_; rintro e w' ⟨rfl, rfl⟩) | (go_at_call 27; refine (is_any _ _ HY.out).mono ?_; rintro e w' ⟨rfl, rfl⟩) | (go_at_call 31; refine (scanned_any _ _ HY.out).mono ?_; rintro e w' ⟨rfl, rfl⟩) | (go_at_call 29; refine (base_any _ _ HY.out).mono ?_; rintro e w' ⟨rfl, rfl⟩))
            go_roundw
            case rel => exact ⟨k + 1, _, by omega, by go_num, rfl, rfl, HI.out, hb.trans (hb1.mono hb.size)⟩
            case measure => simp [intOf]; omega
        · by_cases ht6 : 6 < t
          · by_cases hf : lockF x = 0
            · obtain ⟨i1, i2, i3⟩ := lock_ok x hf
              have HY := Lib.hid (i64_is _ i1)
              have i3' : (baseI (lockI x) == 2) = false := by simpa using i3
              clear i3
              go_wp2_with (first | (go_at_call 40; refine (move_any _ _ _ HX.out).mono ?_; rintro e w1 ⟨rfl, hb1⟩) | (go_at_call 39; refine (unlock_any _ _ HX.out).mono ?_; rintro e w' ⟨rfl, rfl⟩) | (go_at_call 37; refine (lock_any _ _ HX.out).mono ?_; rintro e w' ⟨rfl, rfl⟩) | (go_at_call 27; refine (is_any _ _ HY.out).mono ?_; rintro e w' ⟨rfl, rfl⟩) | (go_at_call 31; refine (scanned_any _ _ HY.out).mono ?_; rintro e w' ⟨rfl, rfl⟩) | (go_at_call 29; refine (base_any _ _ HY.out).mono ?_; rintro e w' ⟨rfl, rfl⟩))
              go_roundw
              case rel => exact ⟨k + 1, _, by omega, by go_num, rfl, by rw [i2], i1, hb.trans (hb1.mono hb.size)⟩
              case measure => simp [intOf]; omega
            · have h0 := lock_zero x hf
              have hf' : (lockF x != 0) = true := by simpa using hf
              have HY := HX
              clear hf
              go_wp2_with (first | (go_at_call 40; refine (move_any _ _ _ HX.out).mono ?_; rintro e w1 ⟨rfl, hb1⟩) | (go_at_call 39; refine (unlock_any _ _ HX.out).mono ?_; rintro e w' ⟨rfl, rfl⟩) | (go_at_call 37; refine (lock_any _ _ HX.out).mono ?_; rintro e w' ⟨rfl, rfl⟩) | (go_at_call 27; refine (is_any _ _ HY.out).mono ?_; rintro e w' ⟨rfl, rfl⟩) | (go_at_call 31; refine (scanned_any _ _ HY.out).mono ?_; rintro e w' ⟨rfl, rfl⟩) | (go_at_call 29; refine (base_any _ _ HY.out).mono ?_; rintro e w' ⟨rfl, rfl⟩))
              go_roundw
              case rel => exact ⟨k + 1, _, by omega, by go_num, rfl, rfl, HI.out, hb.trans (hb1.mono hb.size)⟩
              case measure => simp [intOf]; omega
          · by_cases hf : moveF x t = 0
            · obtain ⟨i1, i2, i3⟩ := move_ok x t HI.out hf
              have HY := Lib.hid (i64_is _ i1)
              have HS := Lib.hid i2
              by_cases hs : scanB x = true
              · have i3' : (baseI (moveI x t) == 2) = false := by simpa using i3 hs
                have i2' : scanB (moveI x t) = true := by rw [i2, hs]
                clear i3 i2
                go_wp2_with (first | (go_at_call 40; refine (move_any _ _ _ HX.out).mono ?_; rintro e w1 ⟨rfl, hb1⟩) | (go_at_call 39; refine (unlock_any _ _ HX.out).mono ?_; rintro e w' ⟨rfl, rfl⟩) | (go_at_call 37; refine (lock_any _ _ HX.out).mono ?_; rintro e w' ⟨rfl, rfl⟩) | (go_at_call 27; refine (is_any _ _ HY.out).mono ?_; rintro e w' ⟨rfl, rfl⟩) | (go_at_call 31; refine (scanned_any _ _ HY.out).mono ?_; rintro e w' ⟨rfl, rfl⟩) | (go_at_call 29; refine (base_any _ _ HY.out).mono ?_; rintro e w' ⟨rfl, rfl⟩))
                go_roundw
                case rel => exact ⟨k + 1, _, by omega, by go_num, rfl, by rw [i2'], i1, hb.trans (hb1.mono hb.size)⟩
                case measure => simp [intOf]; omega
              · have hs : scanB x = false := by simpa using hs
                have i2' : scanB (moveI x t) = false := by rw [i2, hs]
                clear i3 i2
                go_wp2_with (first | (go_at_call 40; refine (move_any _ _ _ HX.out).mono ?_; rintro e w1 ⟨rfl, hb1⟩) | (go_at_call 39; refine (unlock_any _ _ HX.out).mono ?_; rintro e w' ⟨rfl, rfl⟩) | (go_at_call 37; refine (lock_any _ _ HX.out).mono ?_; rintro e w' ⟨rfl, rfl⟩) | (go_at_call 27; refine (is_any _ _ HY.out).mono ?_; rintro e w' ⟨rfl, rfl⟩) | (go_at_call 31; refine (scanned_any _ _ HY.out).mono ?_; rintro e w' ⟨rfl, rfl⟩) | (go_at_call 29; refine (base_any _ _ HY.out).mono ?_; rintro e w' ⟨rfl, rfl⟩))
                go_roundw
                case rel => exact ⟨k + 1, _, by omega, by go_num, rfl, by rw [i2'], i1, hb.trans (hb1.mono hb.size)⟩
                case measure => simp [intOf]; omega
            · have h0 := move_zero x t hf
              have hf' : (moveF x t != 0) = true := by simpa using hf
              have HY := HX
              clear hf
              go_wp2_with (first | (go_at_call 40; refine (move_any _ _ _ HX.out).mono ?_; rintro e w1 ⟨rfl, hb1⟩) | (go_at_call 39; refine (unlock_any _ _ HX.out).mono ?_; rintro e w' ⟨rfl, rfl⟩) | (go_at_call 37; refine (lock_any _ _ HX.out).mono ?_; rintro e w' ⟨rfl, rfl⟩) | (go_at_call 27; refine (is_any _ _ HY.out).mono ?_; rintro e w' ⟨rfl, rfl⟩) | (go_at_call 31; refine (scanned_any _ _ HY.out).mono ?_; rintro e w' ⟨rfl, rfl⟩) | (go_at_call 29; refine (base_any _ _ HY.out).mono ?_; rintro e w' ⟨rfl, rfl⟩))
              go_roundw
              case rel => exact ⟨k + 1, _, by omega, by go_num, rfl, rfl, HI.out, hb.trans (hb1.mono hb.size)⟩
              case measure => simp [intOf]; omega
      · go_wp2_with (go_at_call 34; refine (alive18 _).mono ?_; rintro e w1 ⟨rfl, hb1⟩)
        go_ret
        exact ⟨rfl, hb.trans (hb1.mono hb.size)⟩
end Go.Proofs.Ythbpaggeajjepaa

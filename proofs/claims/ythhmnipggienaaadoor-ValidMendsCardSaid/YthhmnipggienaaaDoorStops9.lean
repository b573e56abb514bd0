/-
  Chapter 9: Prologue and Stops. Condition: the function's truths lie in memory.
-/
import Derived.Test.YthhmnipggienaaaDoorSafe9
namespace Go.Proofs.YthhmnipggienaaaDoor
open Go.RowKit
def proB (n : Nat) (pc : Int) : Bool := pc == 0 && decide (0 < n)
theorem pro_any (A B : Option Addr) (n m c d : Nat) (pc : Int) (w : World) :
    Calls Tryd.prog 44 #[.agg #[.slice A n c, .slice B m d], .int .i64 pc] w fun e w' => e = .returned (.bool (proB n pc)) ∧ Below w.heap.size w w' := by
  by_cases h : pc = 0
  · subst h
    have e : proB n 0 = decide (0 < n) := by simp [proB]
    rw [e]; clear e
    go_enter Tryd.func44, Tryd.ntmps44
    go_wp2
    go_ret
    exact ⟨by simp, (Below.refl _ _).alloc (Nat.le_refl _) _⟩
  · have e : proB n pc = false := by simp [proB, h]
    have h' : (pc == 0) = false := by simpa using h
    rw [e]; clear e h
    go_enter Tryd.func44, Tryd.ntmps44
    go_wp2
    go_ret
    exact ⟨by simp, (Below.refl _ _).alloc (Nat.le_refl _) _⟩
theorem stops_any (A B : Option Addr) (n m c d : Nat) (ss : List Bool) (pc : Int) (w : World) (hl : ss.length = m) (_hn : n ≤ maxLen) (hm : m ≤ maxLen) (hr : Row w w.heap.size B (boolVals ss)) :
    Calls Tryd.prog 45 #[.agg #[.slice A n c, .slice B m d], .int .i64 pc] w fun e w' => e = .returned (.bool (stopsB n ss pc)) ∧ Below w.heap.size w w' := by
  have HM := Lib.hid hm
  have HL := Lib.hid hl
  have HR := Lib.hid hr
  unfold maxLen at _hn
  clear hm hl hr
  have hB : Below w.heap.size w (w.alloc (.cells #[.slice A n c, .slice B m d] 54)) := (Below.refl _ _).alloc (Nat.le_refl _) _
  by_cases hp : proB n pc = true
  · have e : stopsB n ss pc = true := by simp [proB] at hp; simp [stopsB, hp]
    rw [e]; clear e
    go_enter Tryd.func45, Tryd.ntmps45
    go_wp2_with (go_at_call 44; refine (pro_any _ _ _ _ _ _ _ _).mono ?_; rintro e w1 ⟨rfl, hb1⟩; obtain ⟨hc1, hf1⟩ := bcell hb1)
    go_ret
    exact ⟨by simp, hB.trans (hb1.mono (by simp))⟩
  · have hp : proB n pc = false := by simpa using hp
    by_cases hlt : pc < n
    · have e : stopsB n ss pc = safeB ss pc := by
        simp [proB] at hp
        by_cases h0 : 0 ≤ pc
        · by_cases h00 : pc = 0
          · have := hp h00; omega
          · simp [stopsB, h0, hlt, h00]
        · simp [stopsB, safeB, h0]
      rw [e]; clear e
      go_enter Tryd.func45, Tryd.ntmps45
      go_wp2_with (first | (go_at_call 44; refine (pro_any _ _ _ _ _ _ _ _).mono ?_; rintro e w1 ⟨rfl, hb1⟩; obtain ⟨hc1, hf1⟩ := bcell hb1; have HB1 := Lib.hid (hB.trans (hb1.mono (by simp)))) | (go_at_call 63; refine (safe_any _ (.inl rfl) _ _ _ _ _ _ ss _ _ HL.out HM.out ((HR.out.below HB1.out).more HB1.out.size)).mono ?_; rintro e w2 ⟨rfl, hb2⟩))
      go_ret
      exact ⟨by simp, HB1.out.trans (hb2.mono HB1.out.size)⟩
    · have e : stopsB n ss pc = false := by simp [stopsB]; omega
      have hlt' : decide (pc < n) = false := by simpa using hlt
      rw [e]; clear e
      go_enter Tryd.func45, Tryd.ntmps45
      go_wp2_with (first | (go_at_call 44; refine (pro_any _ _ _ _ _ _ _ _).mono ?_; rintro e w1 ⟨rfl, hb1⟩; obtain ⟨hc1, hf1⟩ := bcell hb1; have HB1 := Lib.hid (hB.trans (hb1.mono (by simp)))))
      go_ret
      exact ⟨by simp, HB1.out⟩
theorem rstops_any (A B : Option Addr) (n m c d : Nat) (ss : List Bool) (pc : Int) (w : World) (hl : ss.length = m) (_hn : n ≤ maxLen) (hm : m ≤ maxLen) (hr : Row w w.heap.size B (boolVals ss)) :
    Calls Tryd.prog 46 #[.agg #[.slice A n c, .slice B m d], .int .i64 pc] w fun e w' => e = .returned (.bool (stopsB n ss pc)) ∧ Below w.heap.size w w' := by
  have HM := Lib.hid hm
  have HL := Lib.hid hl
  have HR := Lib.hid hr
  unfold maxLen at _hn
  clear hm hl hr
  have hB : Below w.heap.size w (w.alloc (.cells #[.slice A n c, .slice B m d] 54)) := (Below.refl _ _).alloc (Nat.le_refl _) _
  by_cases h0 : 0 ≤ pc
  · by_cases hlt : pc < n
    · by_cases hz : pc = 0
      · have e : stopsB n ss pc = true := by simp [stopsB, hz]; omega
        have hz' : (pc == 0) = true := by simpa using hz
        rw [e]; clear e hz
        go_enter Tryd.func46, Tryd.ntmps46
        go_wp2_with fail
        go_ret
        exact ⟨rfl, hB⟩
      · have e : stopsB n ss pc = safeB ss pc := by simp [stopsB, h0, hlt, hz]
        have hz' : (pc == 0) = false := by simpa using hz
        rw [e]; clear e hz
        go_enter Tryd.func46, Tryd.ntmps46
        go_wp2_with (go_at_call 64; refine (safe_any _ (.inr rfl) _ _ _ _ _ _ ss _ _ HL.out HM.out ((HR.out.below hB).more hB.size)).mono ?_; rintro e w2 ⟨rfl, hb2⟩)
        go_ret
        exact ⟨rfl, hB.trans (hb2.mono hB.size)⟩
    · have e : stopsB n ss pc = false := by simp [stopsB]; omega
      have hlt' : decide (pc < n) = false := by simpa using hlt
      rw [e]; clear e
      go_enter Tryd.func46, Tryd.ntmps46
      go_wp2_with fail
      go_ret
      exact ⟨rfl, hB⟩
  · have e : stopsB n ss pc = false := by simp [stopsB]; omega
    have h0' : decide (0 ≤ pc) = false := by simpa using h0
    rw [e]; clear e
    go_enter Tryd.func46, Tryd.ntmps46
    go_wp2_with fail
    go_ret
    exact ⟨rfl, hB⟩
end Go.Proofs.YthhmnipggienaaaDoor

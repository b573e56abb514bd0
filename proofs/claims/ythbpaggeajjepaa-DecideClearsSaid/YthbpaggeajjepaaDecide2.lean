/-
  Contracts of decide.Decide, of its reference, of Clear and Name.
-/
import Derived.Test.YthbpaggeajjepaaDecide
namespace Go.Proofs.Ythbpaggeajjepaa
open Go.RowKit
set_option maxHeartbeats 2000000 in
theorem decide_any (A B : Option Addr) (n m c d : Nat) (ss : List Bool) (pc : Int) (b0 b1 b2 b3 b4 b5 : Bool) (w : World) (hl : ss.length = m) (hn : n ≤ maxLen) (hm : m ≤ maxLen) (hr : Row w w.heap.size B (bools ss)) :
    Calls Try.prog 19 #[.agg #[.slice A n c, .slice B m d], .int .i64 pc, .agg #[.bool b0, .bool b1, .bool b2, .bool b3, .bool b4, .bool b5]] w fun e w' => e = .returned (.int .i64 (decideI n ss pc b0 b1 b2 b3 b4 b5)) ∧ Below w.heap.size w w' := by
  have HN := Lib.hid hn
  have HM := Lib.hid hm
  have HL := Lib.hid hl
  have HR := Lib.hid hr
  clear hm hl hr hn
  have hB : Below w.heap.size w ((w.alloc (.cells #[.slice A n c, .slice B m d] 35)).alloc (.cells #[.bool b0, .bool b1, .bool b2, .bool b3, .bool b4, .bool b5] 37)) := ((Below.refl _ _).alloc (Nat.le_refl _) _).alloc (by simp) _
  by_cases hst : stopsB n ss pc = true
  · cases b0 with
    | true =>
      have e : decideI n ss pc true b1 b2 b3 b4 b5 = behindI b2 b3 b4 b5 := by simp [decideI, hst]
      rw [e]; clear e
      go_enter Try.func19, Try.ntmps19
      go_wp2_with (first | (go_at_call 48; refine (stops_any _ _ _ _ _ _ ss _ _ HL.out HN.out HM.out ((HR.out.below hB).more hB.size)).mono ?_; rintro e w2 ⟨rfl, hb2⟩; obtain ⟨hc2, hf2⟩ := bcell hb2; have HB2 := Lib.hid (hB.trans (hb2.mono hB.size))) | (go_at_call 22; refine (behind_any _ _ _ _ _ _ _).mono ?_; rintro e w3 ⟨rfl, hb3⟩))
      go_ret
      exact ⟨rfl, HB2.out.trans (hb3.mono HB2.out.size)⟩
    | false =>
      cases b1 with
      | true =>
        by_cases hp : proB n pc = true
        · have e : decideI n ss pc false true b2 b3 b4 b5 = behindI b2 b3 b4 b5 := by
            simp [proB] at hp
            have h1 : (pc == 0) = true := by simpa using hp.1
            rw [decideI, hst, h1]; simp
          rw [e]; clear e
          go_enter Try.func19, Try.ntmps19
          go_wp2_with (first | (go_at_call 47; refine (pro_any _ _ _ _ _ _ _ _).mono ?_; rintro e w1 ⟨rfl, hb1⟩; obtain ⟨hc1, hf1⟩ := bcell hb1; have HB1 := Lib.hid (hB.trans (hb1.mono hB.size)); have hz : w.heap.size + 1 < w1.heap.size := by (have := hb1.size; simp at this; omega)) | (go_at_call 48; refine (stops_any _ _ _ _ _ _ ss _ _ HL.out HN.out HM.out ((HR.out.below HB1.out).more HB1.out.size)).mono ?_; rintro e w2 ⟨rfl, hb2⟩; obtain ⟨hc2, hf2⟩ := bcell hb2; have HB2 := Lib.hid (HB1.out.trans (hb2.mono HB1.out.size))) | (go_at_call 22; refine (behind_any _ _ _ _ _ _ _).mono ?_; rintro e w3 ⟨rfl, hb3⟩))
          go_ret
          exact ⟨rfl, HB2.out.trans (hb3.mono HB2.out.size)⟩
        · have hp : proB n pc = false := by simpa using hp
          have e : decideI n ss pc false true b2 b3 b4 b5 = 0 := by
            simp [decideI]
            intro h1 h2; subst h2
            simp [proB] at hp; simp [stopsB, hp] at h1
          rw [e]; clear e
          go_enter Try.func19, Try.ntmps19
          go_wp2_with (first | (go_at_call 47; refine (pro_any _ _ _ _ _ _ _ _).mono ?_; rintro e w1 ⟨rfl, hb1⟩; obtain ⟨hc1, hf1⟩ := bcell hb1; have HB1 := Lib.hid (hB.trans (hb1.mono hB.size)); have hz : w.heap.size + 1 < w1.heap.size := by (have := hb1.size; simp at this; omega)))
          go_ret
          exact ⟨rfl, HB1.out⟩
      | false =>
        have e : decideI n ss pc false false b2 b3 b4 b5 = 0 := by simp [decideI]
        rw [e]; clear e
        go_enter Try.func19, Try.ntmps19
        go_wp2_with fail
        go_ret
        exact ⟨rfl, hB⟩
  · have hst : stopsB n ss pc = false := by simpa using hst
    have e : decideI n ss pc b0 b1 b2 b3 b4 b5 = 0 := by simp [decideI, hst]
    rw [e]; clear e
    cases b0 with
    | true =>
      go_enter Try.func19, Try.ntmps19
      go_wp2_with (first | (go_at_call 48; refine (stops_any _ _ _ _ _ _ ss _ _ HL.out HN.out HM.out ((HR.out.below hB).more hB.size)).mono ?_; rintro e w2 ⟨rfl, hb2⟩; obtain ⟨hc2, hf2⟩ := bcell hb2; have HB2 := Lib.hid (hB.trans (hb2.mono hB.size))))
      go_ret
      exact ⟨rfl, HB2.out⟩
    | false =>
      cases b1 with
      | true =>
        by_cases hp : proB n pc = true
        · go_enter Try.func19, Try.ntmps19
          go_wp2_with (first | (go_at_call 47; refine (pro_any _ _ _ _ _ _ _ _).mono ?_; rintro e w1 ⟨rfl, hb1⟩; obtain ⟨hc1, hf1⟩ := bcell hb1; have HB1 := Lib.hid (hB.trans (hb1.mono hB.size)); have hz : w.heap.size + 1 < w1.heap.size := by (have := hb1.size; simp at this; omega)) | (go_at_call 48; refine (stops_any _ _ _ _ _ _ ss _ _ HL.out HN.out HM.out ((HR.out.below HB1.out).more HB1.out.size)).mono ?_; rintro e w2 ⟨rfl, hb2⟩; have HB2 := Lib.hid (HB1.out.trans (hb2.mono HB1.out.size))))
          go_ret
          exact ⟨rfl, HB2.out⟩
        · have hp : proB n pc = false := by simpa using hp
          go_enter Try.func19, Try.ntmps19
          go_wp2_with (first | (go_at_call 47; refine (pro_any _ _ _ _ _ _ _ _).mono ?_; rintro e w1 ⟨rfl, hb1⟩; obtain ⟨hc1, hf1⟩ := bcell hb1; have HB1 := Lib.hid (hB.trans (hb1.mono hB.size)); have hz : w.heap.size + 1 < w1.heap.size := by (have := hb1.size; simp at this; omega)))
          go_ret
          exact ⟨rfl, HB1.out⟩
      | false =>
        go_enter Try.func19, Try.ntmps19
        go_wp2_with fail
        go_ret
        exact ⟨rfl, hB⟩
set_option maxHeartbeats 2000000 in
theorem rdecide_any (A B : Option Addr) (n m c d : Nat) (ss : List Bool) (pc : Int) (b0 b1 b2 b3 b4 b5 : Bool) (w : World) (hl : ss.length = m) (hn : n ≤ maxLen) (hm : m ≤ maxLen) (hr : Row w w.heap.size B (bools ss)) :
    Calls Try.prog 20 #[.agg #[.slice A n c, .slice B m d], .int .i64 pc, .agg #[.bool b0, .bool b1, .bool b2, .bool b3, .bool b4, .bool b5]] w fun e w' => e = .returned (.int .i64 (decideI n ss pc b0 b1 b2 b3 b4 b5)) ∧ Below w.heap.size w w' := by
  have HN := Lib.hid hn
  have HM := Lib.hid hm
  have HL := Lib.hid hl
  have HR := Lib.hid hr
  clear hm hl hr hn
  have hB : Below w.heap.size w ((w.alloc (.cells #[.slice A n c, .slice B m d] 35)).alloc (.cells #[.bool b0, .bool b1, .bool b2, .bool b3, .bool b4, .bool b5] 41)) := ((Below.refl _ _).alloc (Nat.le_refl _) _).alloc (by simp) _
  by_cases hst : stopsB n ss pc = true
  · by_cases hk : b0 = true ∨ (pc = 0 ∧ b1 = true)
    · have e : decideI n ss pc b0 b1 b2 b3 b4 b5 = behindI b2 b3 b4 b5 := by
        rcases hk with h | ⟨h, h'⟩
        · rw [decideI, hst, h]; simp
        · have h1 : (pc == 0) = true := by simpa using h
          rw [decideI, hst, h1, h']; simp
      rw [e]; clear e
      rcases hk with rfl | ⟨hz, rfl⟩
      · go_enter Try.func20, Try.ntmps20
        go_wp2_with (first | (go_at_call 49; refine (rstops_any _ _ _ _ _ _ ss _ _ HL.out HN.out HM.out ((HR.out.below hB).more hB.size)).mono ?_; rintro e w2 ⟨rfl, hb2⟩; obtain ⟨hc2, hf2⟩ := bcell hb2; have HB2 := Lib.hid (hB.trans (hb2.mono hB.size))) | (go_at_call 23; refine (rbehind_any _ _ _ _ _ _ _).mono ?_; rintro e w3 ⟨rfl, hb3⟩))
        go_ret
        exact ⟨rfl, HB2.out.trans (hb3.mono HB2.out.size)⟩
      · have hz' : (pc == 0) = true := by simpa using hz
        clear hz
        cases b0
        all_goals
          go_enter Try.func20, Try.ntmps20
          go_wp2_with (first | (go_at_call 49; refine (rstops_any _ _ _ _ _ _ ss _ _ HL.out HN.out HM.out ((HR.out.below hB).more hB.size)).mono ?_; rintro e w2 ⟨rfl, hb2⟩; obtain ⟨hc2, hf2⟩ := bcell hb2; have HB2 := Lib.hid (hB.trans (hb2.mono hB.size))) | (go_at_call 23; refine (rbehind_any _ _ _ _ _ _ _).mono ?_; rintro e w3 ⟨rfl, hb3⟩))
          go_ret
          exact ⟨rfl, HB2.out.trans (hb3.mono HB2.out.size)⟩
    · have hb0 : b0 = false := by cases b0 <;> simp_all
      have e : decideI n ss pc b0 b1 b2 b3 b4 b5 = 0 := by
        simp [decideI, hb0]; intro _ h1 h2; exact absurd (.inr ⟨h1, h2⟩) hk
      rw [e]; clear e
      subst hb0
      by_cases hz : pc = 0
      · have hb1 : b1 = false := by cases b1 <;> simp_all
        subst hb1
        have hz' : (pc == 0) = true := by simpa using hz
        clear hz hk
        go_enter Try.func20, Try.ntmps20
        go_wp2_with (first | (go_at_call 49; refine (rstops_any _ _ _ _ _ _ ss _ _ HL.out HN.out HM.out ((HR.out.below hB).more hB.size)).mono ?_; rintro e w2 ⟨rfl, hb2⟩; obtain ⟨hc2, hf2⟩ := bcell hb2; have HB2 := Lib.hid (hB.trans (hb2.mono hB.size))))
        go_ret
        exact ⟨rfl, HB2.out⟩
      · have hz' : (pc == 0) = false := by simpa using hz
        clear hz hk
        go_enter Try.func20, Try.ntmps20
        go_wp2_with (first | (go_at_call 49; refine (rstops_any _ _ _ _ _ _ ss _ _ HL.out HN.out HM.out ((HR.out.below hB).more hB.size)).mono ?_; rintro e w2 ⟨rfl, hb2⟩; obtain ⟨hc2, hf2⟩ := bcell hb2; have HB2 := Lib.hid (hB.trans (hb2.mono hB.size))))
        go_ret
        exact ⟨rfl, HB2.out⟩
  · have hst : stopsB n ss pc = false := by simpa using hst
    have e : decideI n ss pc b0 b1 b2 b3 b4 b5 = 0 := by simp [decideI, hst]
    rw [e]; clear e
    go_enter Try.func20, Try.ntmps20
    go_wp2_with (first | (go_at_call 49; refine (rstops_any _ _ _ _ _ _ ss _ _ HL.out HN.out HM.out ((HR.out.below hB).more hB.size)).mono ?_; rintro e w2 ⟨rfl, hb2⟩; have HB2 := Lib.hid (hB.trans (hb2.mono hB.size))))
    go_ret
    exact ⟨rfl, HB2.out⟩
end Go.Proofs.Ythbpaggeajjepaa

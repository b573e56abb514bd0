/-
  The law DecideEnds as a contract.
-/
import Derived.Test.YthbpaggeajjepaaLaw25
import Derived.Test.YthbpaggeajjepaaBlk
namespace Go.Proofs.Ythbpaggeajjepaa
open Go.RowKit
/-- How many actions are still to come. -/
def rankN (s z b0 b1 b2 _b3 _b4 _b5 : Bool) : Nat := if s && (b0 || (z && b1)) then (if b2 then 2 else 1) else 0
def actI (s z b0 b1 b2 b3 b4 b5 : Bool) : Int := if s && (b0 || (z && b1)) then behindI b2 b3 b4 b5 else 0
theorem rank_step : ∀ s z b0 b1 b2 b3 b4 b5 : Bool, rankN s z (b0 && keepA (actI s z b0 b1 b2 b3 b4 b5)) (b1 && keepA (actI s z b0 b1 b2 b3 b4 b5)) (b2 && keepB (actI s z b0 b1 b2 b3 b4 b5)) b3 (b4 && keepS (actI s z b0 b1 b2 b3 b4 b5)) (b5 && keepP (actI s z b0 b1 b2 b3 b4 b5)) ≤ rankN s z b0 b1 b2 b3 b4 b5 - 1 := by decide
theorem rank_top : ∀ s z b0 b1 b2 b3 b4 b5 : Bool, rankN s z b0 b1 b2 b3 b4 b5 ≤ 2 := by decide
theorem rank_zero : ∀ s z b0 b1 b2 b3 b4 b5 : Bool, rankN s z b0 b1 b2 b3 b4 b5 = 0 → actI s z b0 b1 b2 b3 b4 b5 = 0 := by decide
theorem act_range : ∀ s z b0 b1 b2 b3 b4 b5 : Bool, 0 ≤ actI s z b0 b1 b2 b3 b4 b5 ∧ actI s z b0 b1 b2 b3 b4 b5 ≤ 4 := by decide
theorem act_eq (n : Nat) (ss : List Bool) (pc : Int) (b0 b1 b2 b3 b4 b5 : Bool) : decideI n ss pc b0 b1 b2 b3 b4 b5 = actI (stopsB n ss pc) (pc == 0) b0 b1 b2 b3 b4 b5 := rfl
set_option maxHeartbeats 4000000 in
theorem ends_law (A B : Option Addr) (n m c d : Nat) (ss : List Bool) (pc : Int) (b0 b1 b2 b3 b4 b5 : Bool) (w : World) (hl : ss.length = m) (hn : n ≤ maxLen) (hm : m ≤ maxLen) (hr : Row w w.heap.size B (bools ss)) :
    Calls Try.prog 6 #[.agg #[.slice A n c, .slice B m d], .int .i64 pc, .agg #[.bool b0, .bool b1, .bool b2, .bool b3, .bool b4, .bool b5]] w fun e w' => e = .returned (.bool true) ∧ Below w.heap.size w w' := by
  have HN := Lib.hid hn
  have HM := Lib.hid hm
  have HL := Lib.hid hl
  have HR := Lib.hid hr
  clear hm hl hr hn
  have hB : Below w.heap.size w ((w.alloc (.cells #[.slice A n c, .slice B m d] 35)).alloc (.cells #[.bool b0, .bool b1, .bool b2, .bool b3, .bool b4, .bool b5] 37)) := ((Below.refl _ _).alloc (Nat.le_refl _) _).alloc (by simp) _
  by_cases hk : (decide (n ≤ 100) && decide (m ≤ 100)) = true
  · go_enter Try.func6, Try.ntmps6
    go_wp2_with (go_at_call 17; refine (light_any _ _ _ _ _ _ _).mono ?_; rintro e w1 ⟨rfl, hb1⟩)
    go_loopw [7] (fun vi wr => ∃ (k : Nat) (c0 c1 c2 c3 c4 c5 : Bool), k ≤ 3 ∧ vi = .int .i64 k ∧ rankN (stopsB n ss pc) (pc == 0) c0 c1 c2 c3 c4 c5 ≤ 3 - k ∧ Below w.heap.size w wr ∧ w.heap.size + 1 < wr.heap.size ∧
        Blk wr w.heap.size 35 #[.slice A n c, .slice B m d] ∧ Blk wr (w.heap.size + 1) 37 #[.bool c0, .bool c1, .bool c2, .bool c3, .bool c4, .bool c5]) (fun vi _ => 3 - (intOf vi).toNat)
    case atStart =>
      have hs := hb1.size
      simp at hs
      refine ⟨0, b0, b1, b2, b3, b4, b5, by omega, rfl, by have := rank_top (stopsB n ss pc) (pc == 0) b0 b1 b2 b3 b4 b5; omega, hB.trans (hb1.mono hB.size), by omega, ?_, ?_⟩
      · exact ((Blk.new _ _ _).alloc _).below hb1 (by simp; omega)
      · have hq := Blk.new (w.alloc (.cells #[.slice A n c, .slice B m d] 35)) 37 #[.bool b0, .bool b1, .bool b2, .bool b3, .bool b4, .bool b5]
        rw [World.size_alloc] at hq
        exact hq.below hb1 (by simp)
    case round =>
      obtain ⟨k, c0, c1, c2, c3, c4, c5, hk3, rfl, hrk, hbw, hsz, hx0, hx1⟩ := hrel
      have HA := Lib.hid hbw
      have hR : Row wr wr.heap.size B (bools ss) := (HR.out.below hbw).more hbw.size
      have HRR := Lib.hid hR
      have H0 := Lib.hid hx0
      have H1 := Lib.hid hx1
      have HK := Lib.hid hrk
      have q0 := hx0.cell 0
      have q1 := hx0.cell 1
      have r0 := hx1.cell 0
      have r1 := hx1.cell 1
      have r2 := hx1.cell 2
      have r3 := hx1.cell 3
      have r4 := hx1.cell 4
      have r5 := hx1.cell 5
      have f0 := hx1.frozen 0
      have f1 := hx1.frozen 1
      have f2 := hx1.frozen 2
      have f3 := hx1.frozen 3
      have f4 := hx1.frozen 4
      have f5 := hx1.frozen 5
      simp at q0 q1 r0 r1 r2 r3 r4 r5
      clear hbw hR hx0 hx1 hrk hb1 hB
      by_cases hlt : k < 3
      · obtain ⟨ha0, ha4⟩ := act_range (stopsB n ss pc) (pc == 0) c0 c1 c2 c3 c4 c5
        rw [← act_eq] at ha0 ha4
        have ha4' : decide (decideI n ss pc c0 c1 c2 c3 c4 c5 ≤ 4) = true := by simpa using ha4
        go_wp2_with (first | (go_at_call 19; refine (decide_any _ _ _ _ _ _ ss _ _ _ _ _ _ _ _ HL.out HN.out HM.out HRR.out).mono ?_; rintro e w2 ⟨rfl, hb2⟩; obtain ⟨hc2, hf2⟩ := bcell hb2; have hz2 : w.heap.size + 1 < w2.heap.size := by (have := hb2.size; omega)) | (go_at_call 24; refine (clear_any _ (.inl rfl) _ _ _ _ _ _ _ _).mono ?_; rintro e w3 ⟨rfl, hb3⟩; obtain ⟨hc3, hf3⟩ := bcell hb3))
        have h2 := HA.out.trans (hb2.mono HA.out.size)
        have h3 := h2.trans (hb3.mono h2.size)
        have x0 := (H0.out.below hb2 (by omega)).below hb3 (by omega)
        have x1 := (H1.out.below hb2 (by omega)).below hb3 (by omega)
        have hs3 := hb3.size
        have hrs := rank_step (stopsB n ss pc) (pc == 0) c0 c1 c2 c3 c4 c5
        rw [← act_eq] at hrs
        have hrk := HK.out
        refine ⟨⟨k + 1, _, _, _, _, _, _, by omega, by go_num, Nat.le_trans hrs (by omega), ((((((h3.setCell (by simp) _).setCell (by simp) _).setCell (by simp) _).setCell (by simp) _).setCell (by simp) _).setCell (by simp) _), ?_, ((((((x0.far (by simp) _).far (by simp) _).far (by simp) _).far (by simp) _).far (by simp) _).far (by simp) _), (((((x1.set_ 0 _).set_ 1 _).set_ 2 _).set_ 3 _).set_ 4 _).set_ 5 _⟩, by simp [intOf]; omega⟩
        simp [World.setCell]
        omega
      · have hk' : k = 3 := by omega
        have e0 : decideI n ss pc c0 c1 c2 c3 c4 c5 = 0 := by
          rw [act_eq]
          have := HK.out
          exact rank_zero _ _ _ _ _ _ _ _ (by omega)
        clear hk'
        go_wp2_with (first | (go_at_call 19; refine (decide_any _ _ _ _ _ _ ss _ _ _ _ _ _ _ _ HL.out HN.out HM.out HRR.out).mono ?_; rintro e w2 ⟨rfl, hb2⟩) | (go_at_call 18; refine (alive25 _).mono ?_; rintro e w3 ⟨rfl, hb3⟩))
        go_ret
        have h2 := HA.out.trans (hb2.mono HA.out.size)
        exact ⟨rfl, h2.trans (hb3.mono h2.size)⟩
  · have hk : (decide (n ≤ 100) && decide (m ≤ 100)) = false := by simpa using hk
    go_enter Try.func6, Try.ntmps6
    go_wp2_with (first | (go_at_call 17; refine (light_any _ _ _ _ _ _ _).mono ?_; rintro e w1 ⟨rfl, hb1⟩) | (go_at_call 18; refine (alive25 _).mono ?_; rintro e w2 ⟨rfl, hb2⟩))
    go_ret
    have hB1 := hB.trans (hb1.mono hB.size)
    exact ⟨rfl, hB1.trans (hb2.mono hB1.size)⟩
end Go.Proofs.Ythbpaggeajjepaa

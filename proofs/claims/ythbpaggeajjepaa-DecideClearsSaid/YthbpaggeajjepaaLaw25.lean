/-
  The laws DecideActs, DecideClears, DecideEnds as contracts.
-/
import Derived.Test.YthbpaggeajjepaaClear
namespace Go.Proofs.Ythbpaggeajjepaa
open Go.RowKit
set_option maxHeartbeats 2000000 in
theorem acts_law (A B : Option Addr) (n m c d : Nat) (ss : List Bool) (pc : Int) (b0 b1 b2 b3 b4 b5 : Bool) (w : World) (hl : ss.length = m) (hn : n ≤ maxLen) (hm : m ≤ maxLen) (hr : Row w w.heap.size B (bools ss)) :
    Calls Try.prog 4 #[.agg #[.slice A n c, .slice B m d], .int .i64 pc, .agg #[.bool b0, .bool b1, .bool b2, .bool b3, .bool b4, .bool b5]] w fun e w' => e = .returned (.bool true) ∧ Below w.heap.size w w' := by
  have HN := Lib.hid hn
  have HM := Lib.hid hm
  have HL := Lib.hid hl
  have HR := Lib.hid hr
  clear hm hl hr hn
  by_cases hk : (decide (n ≤ 100) && decide (m ≤ 100)) = true
  · go_enter Try.func4, Try.ntmps4
    go_wp2_with (go_at_call 17; refine (light_any _ _ _ _ _ _ _).mono ?_; rintro e w1 ⟨rfl, hb1⟩)
    have hB : Below w.heap.size w ((w.alloc (.cells #[.slice A n c, .slice B m d] 35)).alloc (.cells #[.bool b0, .bool b1, .bool b2, .bool b3, .bool b4, .bool b5] 37)) := ((Below.refl _ _).alloc (Nat.le_refl _) _).alloc (by simp) _
    have hWs : ((w.alloc (.cells #[.slice A n c, .slice B m d] 35)).alloc (.cells #[.bool b0, .bool b1, .bool b2, .bool b3, .bool b4, .bool b5] 37)).heap.size = w.heap.size + 2 := by simp
    have q0 : ((w.alloc (.cells #[.slice A n c, .slice B m d] 35)).alloc (.cells #[.bool b0, .bool b1, .bool b2, .bool b3, .bool b4, .bool b5] 37)).cell? ⟨w.heap.size, 0, none⟩ = some (.slice A n c) := by simp [go_sem]
    have q1 : ((w.alloc (.cells #[.slice A n c, .slice B m d] 35)).alloc (.cells #[.bool b0, .bool b1, .bool b2, .bool b3, .bool b4, .bool b5] 37)).cell? ⟨w.heap.size, 1, none⟩ = some (.slice B m d) := by simp [go_sem]
    have r0 : ((w.alloc (.cells #[.slice A n c, .slice B m d] 35)).alloc (.cells #[.bool b0, .bool b1, .bool b2, .bool b3, .bool b4, .bool b5] 37)).cell? ⟨w.heap.size + 1, 0, none⟩ = some (.bool b0) := by simp [go_sem]
    have r1 : ((w.alloc (.cells #[.slice A n c, .slice B m d] 35)).alloc (.cells #[.bool b0, .bool b1, .bool b2, .bool b3, .bool b4, .bool b5] 37)).cell? ⟨w.heap.size + 1, 1, none⟩ = some (.bool b1) := by simp [go_sem]
    have r2 : ((w.alloc (.cells #[.slice A n c, .slice B m d] 35)).alloc (.cells #[.bool b0, .bool b1, .bool b2, .bool b3, .bool b4, .bool b5] 37)).cell? ⟨w.heap.size + 1, 2, none⟩ = some (.bool b2) := by simp [go_sem]
    have r3 : ((w.alloc (.cells #[.slice A n c, .slice B m d] 35)).alloc (.cells #[.bool b0, .bool b1, .bool b2, .bool b3, .bool b4, .bool b5] 37)).cell? ⟨w.heap.size + 1, 3, none⟩ = some (.bool b3) := by simp [go_sem]
    have r4 : ((w.alloc (.cells #[.slice A n c, .slice B m d] 35)).alloc (.cells #[.bool b0, .bool b1, .bool b2, .bool b3, .bool b4, .bool b5] 37)).cell? ⟨w.heap.size + 1, 4, none⟩ = some (.bool b4) := by simp [go_sem]
    have r5 : ((w.alloc (.cells #[.slice A n c, .slice B m d] 35)).alloc (.cells #[.bool b0, .bool b1, .bool b2, .bool b3, .bool b4, .bool b5] 37)).cell? ⟨w.heap.size + 1, 5, none⟩ = some (.bool b5) := by simp [go_sem]
    rw [hWs] at hb1
    generalize ((w.alloc (.cells #[.slice A n c, .slice B m d] 35)).alloc (.cells #[.bool b0, .bool b1, .bool b2, .bool b3, .bool b4, .bool b5] 37)) = W at *
    have HWs := Lib.hid hWs
    clear hWs
    have s0 : ∀ w', Below (w.heap.size + 2) W w' → w'.cell? ⟨w.heap.size, 0, none⟩ = some (.slice A n c) := fun w' h => (h.cell (p := ⟨w.heap.size, 0, none⟩) (by simp)).trans q0
    have s1 : ∀ w', Below (w.heap.size + 2) W w' → w'.cell? ⟨w.heap.size, 1, none⟩ = some (.slice B m d) := fun w' h => (h.cell (p := ⟨w.heap.size, 1, none⟩) (by simp)).trans q1
    have t0 : ∀ w', Below (w.heap.size + 2) W w' → w'.cell? ⟨w.heap.size + 1, 0, none⟩ = some (.bool b0) := fun w' h => (h.cell (p := ⟨w.heap.size + 1, 0, none⟩) (by simp)).trans r0
    have t1 : ∀ w', Below (w.heap.size + 2) W w' → w'.cell? ⟨w.heap.size + 1, 1, none⟩ = some (.bool b1) := fun w' h => (h.cell (p := ⟨w.heap.size + 1, 1, none⟩) (by simp)).trans r1
    have t2 : ∀ w', Below (w.heap.size + 2) W w' → w'.cell? ⟨w.heap.size + 1, 2, none⟩ = some (.bool b2) := fun w' h => (h.cell (p := ⟨w.heap.size + 1, 2, none⟩) (by simp)).trans r2
    have t3 : ∀ w', Below (w.heap.size + 2) W w' → w'.cell? ⟨w.heap.size + 1, 3, none⟩ = some (.bool b3) := fun w' h => (h.cell (p := ⟨w.heap.size + 1, 3, none⟩) (by simp)).trans r3
    have t4 : ∀ w', Below (w.heap.size + 2) W w' → w'.cell? ⟨w.heap.size + 1, 4, none⟩ = some (.bool b4) := fun w' h => (h.cell (p := ⟨w.heap.size + 1, 4, none⟩) (by simp)).trans r4
    have t5 : ∀ w', Below (w.heap.size + 2) W w' → w'.cell? ⟨w.heap.size + 1, 5, none⟩ = some (.bool b5) := fun w' h => (h.cell (p := ⟨w.heap.size + 1, 5, none⟩) (by simp)).trans r5
    clear q0 q1 r0 r1 r2 r3 r4 r5
    have hRw : ∀ w', Below (w.heap.size + 2) W w' → Row w' w'.heap.size B (bools ss) := fun w' h => by
      have h1 : Below w.heap.size w w' := hB.trans (h.mono (by omega))
      exact (HR.out.below h1).more h1.size
    have HRW := Lib.hid hRw
    have hz : w.heap.size + 2 ≤ W.heap.size := by rw [HWs.out]; omega
    clear hRw
    refine region_below W (w.heap.size + 2) (by kernel_rfl) (by kernel_rfl) hb1 ?_
    repeat (first | go_big_quiet_skip | (go_big_quiet_want; first | (go_big_quiet_op; first | go_big_quiet_on | ((first | with_reducible refine ⟨_, fun _ _ => rfl, ?_⟩ | with_reducible refine ⟨_, fun w' hw' => calm_of hw' hz (decide_any _ _ _ _ _ _ ss _ _ _ _ _ _ _ _ HL.out HN.out HM.out (HRW.out _ hw')), ?_⟩ | with_reducible refine ⟨_, fun w' hw' => calm_of hw' hz (of_any _ _ _ _ _ _ _), ?_⟩ | with_reducible refine ⟨_, fun w' hw' => calm_of hw' hz (rdecide_any _ _ _ _ _ _ ss _ _ _ _ _ _ _ _ HL.out HN.out HM.out (HRW.out _ hw')), ?_⟩ | with_reducible refine ⟨_, fun w' hw' => calm_of hw' hz (behind_any _ _ _ _ _ _ _), ?_⟩ | with_reducible refine ⟨_, fun w' hw' => calm_of hw' hz (rbehind_any _ _ _ _ _ _ _), ?_⟩ | with_reducible refine ⟨_, fun w' hw' => calm_of hw' hz (alive25 _), ?_⟩); go_big_quiet_on)) | (simp (contextual := true) [go_sem, s0, s1, t0, t1, t2, t3, t4, t5]; with_reducible refine ⟨_, fun _ _ => rfl, ?_⟩; go_big_quiet_on)))
    refine wpQuiet_nil ?_
    intro w2 hw2
    go_wp2
    go_ret
    exact ⟨rfl, hB.trans (hw2.mono (by omega))⟩
  · have hk : (decide (n ≤ 100) && decide (m ≤ 100)) = false := by simpa using hk
    have hB : Below w.heap.size w ((w.alloc (.cells #[.slice A n c, .slice B m d] 35)).alloc (.cells #[.bool b0, .bool b1, .bool b2, .bool b3, .bool b4, .bool b5] 37)) := ((Below.refl _ _).alloc (Nat.le_refl _) _).alloc (by simp) _
    go_enter Try.func4, Try.ntmps4
    go_wp2_with (first | (go_at_call 17; refine (light_any _ _ _ _ _ _ _).mono ?_; rintro e w1 ⟨rfl, hb1⟩) | (go_at_call 18; refine (alive25 _).mono ?_; rintro e w2 ⟨rfl, hb2⟩))
    go_ret
    have hB1 := hB.trans (hb1.mono hB.size)
    exact ⟨rfl, hB1.trans (hb2.mono hB1.size)⟩
theorem eq_flags (x0 x1 x2 x3 x4 x5 : Bool) (W : World) : (binOp .eql 41 (.agg #[.bool x0, .bool x1, .bool x2, .bool x3, .bool x4, .bool x5]) (.agg #[.bool x0, .bool x1, .bool x2, .bool x3, .bool x4, .bool x5])).run Try.prog W = .ok (.bool true) W := by
  cases x0 <;> cases x1 <;> cases x2 <;> cases x3 <;> cases x4 <;> cases x5 <;> kernel_rfl
set_option maxHeartbeats 4000000 in
theorem clears_law (b0 b1 b2 b3 b4 b5 : Bool) (a : Int) (w : World) :
    Calls Try.prog 5 #[.agg #[.bool b0, .bool b1, .bool b2, .bool b3, .bool b4, .bool b5], .int .i64 a] w fun e w' => e = .returned (.bool true) ∧ Below w.heap.size w w' := by
  have he := eq_flags (b0 && keepA a) (b1 && keepA a) (b2 && keepB a) b3 (b4 && keepS a) (b5 && keepP a)
  have t0 : ∀ w', Below (w.heap.size + 1) (w.alloc (.cells #[.bool b0, .bool b1, .bool b2, .bool b3, .bool b4, .bool b5] 37)) w' → w'.cell? ⟨w.heap.size, 0, none⟩ = some (.bool b0) := fun w' h => (h.cell (p := ⟨w.heap.size, 0, none⟩) (by simp)).trans (by simp [go_sem])
  have t1 : ∀ w', Below (w.heap.size + 1) (w.alloc (.cells #[.bool b0, .bool b1, .bool b2, .bool b3, .bool b4, .bool b5] 37)) w' → w'.cell? ⟨w.heap.size, 1, none⟩ = some (.bool b1) := fun w' h => (h.cell (p := ⟨w.heap.size, 1, none⟩) (by simp)).trans (by simp [go_sem])
  have t2 : ∀ w', Below (w.heap.size + 1) (w.alloc (.cells #[.bool b0, .bool b1, .bool b2, .bool b3, .bool b4, .bool b5] 37)) w' → w'.cell? ⟨w.heap.size, 2, none⟩ = some (.bool b2) := fun w' h => (h.cell (p := ⟨w.heap.size, 2, none⟩) (by simp)).trans (by simp [go_sem])
  have t3 : ∀ w', Below (w.heap.size + 1) (w.alloc (.cells #[.bool b0, .bool b1, .bool b2, .bool b3, .bool b4, .bool b5] 37)) w' → w'.cell? ⟨w.heap.size, 3, none⟩ = some (.bool b3) := fun w' h => (h.cell (p := ⟨w.heap.size, 3, none⟩) (by simp)).trans (by simp [go_sem])
  have t4 : ∀ w', Below (w.heap.size + 1) (w.alloc (.cells #[.bool b0, .bool b1, .bool b2, .bool b3, .bool b4, .bool b5] 37)) w' → w'.cell? ⟨w.heap.size, 4, none⟩ = some (.bool b4) := fun w' h => (h.cell (p := ⟨w.heap.size, 4, none⟩) (by simp)).trans (by simp [go_sem])
  have t5 : ∀ w', Below (w.heap.size + 1) (w.alloc (.cells #[.bool b0, .bool b1, .bool b2, .bool b3, .bool b4, .bool b5] 37)) w' → w'.cell? ⟨w.heap.size, 5, none⟩ = some (.bool b5) := fun w' h => (h.cell (p := ⟨w.heap.size, 5, none⟩) (by simp)).trans (by simp [go_sem])
  have hB : Below w.heap.size w (w.alloc (.cells #[.bool b0, .bool b1, .bool b2, .bool b3, .bool b4, .bool b5] 37)) := (Below.refl _ _).alloc (Nat.le_refl _) _
  have hz : w.heap.size + 1 ≤ (w.alloc (.cells #[.bool b0, .bool b1, .bool b2, .bool b3, .bool b4, .bool b5] 37)).heap.size := by simp
  by_cases h : 0 ≤ a ∧ a < 5
  · have h' : a = 0 ∨ a = 1 ∨ a = 2 ∨ a = 3 ∨ a = 4 := by omega
    clear h
    rcases h' with rfl | rfl | rfl | rfl | rfl
    all_goals
      have n0 : actName 0 = ⟨#[103, 111]⟩ := by kernel_rfl
      have n1 : actName 1 = ⟨#[115, 101, 114, 118, 101]⟩ := by kernel_rfl
      have n2 : actName 2 = ⟨#[112, 97, 114, 107]⟩ := by kernel_rfl
      have n3 : actName 3 = ⟨#[114, 101, 113, 117, 101, 117, 101]⟩ := by kernel_rfl
      have n4 : actName 4 = ⟨#[102, 111, 114, 103, 101, 116]⟩ := by kernel_rfl
      go_enter Try.func5, Try.ntmps5
      go_wp2_with fail
      refine region_below (w.alloc (.cells #[.bool b0, .bool b1, .bool b2, .bool b3, .bool b4, .bool b5] 37)) (w.heap.size + 1) (by kernel_rfl) (by kernel_rfl) ((Below.refl _ _).alloc (by simp) _) ?_
      repeat (first | go_big_quiet_skip | (go_big_quiet_want; first | (go_big_quiet_op; first | go_big_quiet_on | ((first | with_reducible refine ⟨_, fun _ _ => rfl, ?_⟩ | with_reducible refine ⟨_, fun w' hw' => calm_of hw' hz (clear_any _ (.inl rfl) _ _ _ _ _ _ _ _), ?_⟩ | with_reducible refine ⟨_, fun w' hw' => calm_of hw' hz (clear_any _ (.inr rfl) _ _ _ _ _ _ _ _), ?_⟩ | with_reducible refine ⟨_, fun w' hw' => calm_of hw' hz (of_any _ _ _ _ _ _ _), ?_⟩ | with_reducible refine ⟨_, fun w' hw' => calm_of hw' hz (dname_any _ _), ?_⟩ | with_reducible refine ⟨_, fun w' hw' => calm_of hw' hz (alive25 _), ?_⟩); go_big_quiet_on)) | (simp (contextual := true) [go_sem, t0, t1, t2, t3, t4, t5]; with_reducible refine ⟨_, fun _ _ => rfl, ?_⟩; go_big_quiet_on)))
      refine wpQuiet_nil ?_
      intro w2 hw2
      go_wp2
      go_ret
      exact ⟨rfl, hB.trans (hw2.mono (by omega))⟩
  · have e0 : actName a = ⟨#[]⟩ := by unfold actName; rw [if_neg (by omega), if_neg (by omega), if_neg (by omega), if_neg (by omega), if_neg (by omega)]
    have hd : decide (0 ≤ a) = true ∧ decide (a < 5) = false ∨ decide (0 ≤ a) = false := by
      by_cases h0 : 0 ≤ a
      · left; simp; omega
      · right; simpa using h0
    clear h
    rcases hd with ⟨hd0, hd5⟩ | hd
    all_goals
      go_enter Try.func5, Try.ntmps5
      go_wp2_with fail
      refine region_below (w.alloc (.cells #[.bool b0, .bool b1, .bool b2, .bool b3, .bool b4, .bool b5] 37)) (w.heap.size + 1) (by kernel_rfl) (by kernel_rfl) (Below.refl _ _) ?_
      repeat (first | go_big_quiet_skip | (go_big_quiet_want; first | (go_big_quiet_op; first | go_big_quiet_on | ((first | with_reducible refine ⟨_, fun _ _ => rfl, ?_⟩ | with_reducible refine ⟨_, fun w' hw' => calm_of hw' hz (clear_any _ (.inl rfl) _ _ _ _ _ _ _ _), ?_⟩ | with_reducible refine ⟨_, fun w' hw' => calm_of hw' hz (clear_any _ (.inr rfl) _ _ _ _ _ _ _ _), ?_⟩ | with_reducible refine ⟨_, fun w' hw' => calm_of hw' hz (of_any _ _ _ _ _ _ _), ?_⟩ | with_reducible refine ⟨_, fun w' hw' => calm_of hw' hz (dname_any _ _), ?_⟩ | with_reducible refine ⟨_, fun w' hw' => calm_of hw' hz (alive25 _), ?_⟩); go_big_quiet_on)) | (simp (contextual := true) [go_sem, t0, t1, t2, t3, t4, t5]; with_reducible refine ⟨_, fun _ _ => rfl, ?_⟩; go_big_quiet_on)))
      refine wpQuiet_nil ?_
      intro w2 hw2
      go_wp2
      go_ret
      exact ⟨rfl, hB.trans (hw2.mono (by omega))⟩
end Go.Proofs.Ythbpaggeajjepaa

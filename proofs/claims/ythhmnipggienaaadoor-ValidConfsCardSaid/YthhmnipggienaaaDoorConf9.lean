/-
  Chapter 9: Conf, the reference's Conf, the law ValidConfs. Condition (of the law): the table is laid.
-/
import Derived.Test.YthhmnipggienaaaDoorLaw09
namespace Go.Proofs.YthhmnipggienaaaDoor
open Go.RowKit
def outB (n most : Int) : Bool := decide (n < 1) || decide (most < n)
/-- What is wrong with a Conf. -/
def confF (p g m : Int) : Int := if outB p 256 || outB g 64 || outB m 64 then 2 else 0
theorem out_any (n most : Int) (w : World) : Calls Tryd.prog 58 #[.int .i64 n, .int .i64 most] w fun e w' => e = .returned (.bool (outB n most)) ∧ w = w' := by
  by_cases h : n < 1
  · have e : outB n most = true := by simp [outB, h]
    have h' : decide (n < 1) = true := by simpa using h
    rw [e]; clear e h
    go_enter Tryd.func58, Tryd.ntmps58
    go_wp2_with fail
    go_ret
    exact ⟨rfl, rfl⟩
  · have e : outB n most = decide (most < n) := by simp [outB]; omega
    have h' : decide (n < 1) = false := by simpa using h
    rw [e]; clear e h
    go_enter Tryd.func58, Tryd.ntmps58
    go_wp2_with fail
    go_ret
    exact ⟨rfl, rfl⟩
set_option maxHeartbeats 1000000 in
theorem conf_any (p g m : Int) (w : World) : Calls Tryd.prog 38 #[.agg #[.int .i64 p, .int .i64 g, .int .i64 m]] w fun e w' => e = .returned (.int .i64 (confF p g m)) ∧ Below w.heap.size w w' := by
  have hB : Below w.heap.size w (w.alloc (.cells #[.int .i64 p, .int .i64 g, .int .i64 m] 46)) := (Below.refl _ _).alloc (Nat.le_refl _) _
  unfold confF
  cases h1 : outB p 256
  · cases h2 : outB g 64
    · cases h3 : outB m 64
      all_goals
        go_enter Tryd.func38, Tryd.ntmps38
        go_wp2_with (go_at_call 58; refine (out_any _ _ _).mono ?_; rintro e w1 ⟨rfl, rfl⟩)
        go_ret
        exact ⟨rfl, hB⟩
    · go_enter Tryd.func38, Tryd.ntmps38
      go_wp2_with (go_at_call 58; refine (out_any _ _ _).mono ?_; rintro e w1 ⟨rfl, rfl⟩)
      go_ret
      exact ⟨rfl, hB⟩
  · go_enter Tryd.func38, Tryd.ntmps38
    go_wp2_with (go_at_call 58; refine (out_any _ _ _).mono ?_; rintro e w1 ⟨rfl, rfl⟩)
    go_ret
    exact ⟨rfl, hB⟩
theorem outB_split (n most : Int) : (decide (n < 1) = true ∧ outB n most = true) ∨ (decide (n < 1) = false ∧ decide (most < n) = true ∧ outB n most = true) ∨ (decide (n < 1) = false ∧ decide (most < n) = false ∧ outB n most = false) := by
  simp only [outB]
  cases decide (n < 1) <;> cases decide (most < n) <;> simp
set_option maxHeartbeats 2000000 in
theorem rconf_any (p g m : Int) (w : World) : Calls Tryd.prog 39 #[.agg #[.int .i64 p, .int .i64 g, .int .i64 m]] w fun e w' => e = .returned (.int .i64 (confF p g m)) ∧ Below w.heap.size w w' := by
  have hB : Below w.heap.size w (w.alloc (.cells #[.int .i64 p, .int .i64 g, .int .i64 m] 46)) := (Below.refl _ _).alloc (Nat.le_refl _) _
  unfold confF
  rcases outB_split p 256 with ⟨a1, e1⟩ | ⟨a1, b1, e1⟩ | ⟨a1, b1, e1⟩
  · rw [e1]; clear e1
    go_enter Tryd.func39, Tryd.ntmps39
    go_wp2_with fail
    go_ret
    exact ⟨rfl, hB⟩
  · rw [e1]; clear e1
    go_enter Tryd.func39, Tryd.ntmps39
    go_wp2_with fail
    go_ret
    exact ⟨rfl, hB⟩
  · rcases outB_split g 64 with ⟨a2, e2⟩ | ⟨a2, b2, e2⟩ | ⟨a2, b2, e2⟩
    · rw [e1, e2]; clear e1 e2
      go_enter Tryd.func39, Tryd.ntmps39
      go_wp2_with fail
      go_ret
      exact ⟨rfl, hB⟩
    · rw [e1, e2]; clear e1 e2
      go_enter Tryd.func39, Tryd.ntmps39
      go_wp2_with fail
      go_ret
      exact ⟨rfl, hB⟩
    · rcases outB_split m 64 with ⟨a3, e3⟩ | ⟨a3, b3, e3⟩ | ⟨a3, b3, e3⟩
      all_goals
        rw [e1, e2, e3]; clear e1 e2 e3
        go_enter Tryd.func39, Tryd.ntmps39
        go_wp2_with fail
        go_ret
        exact ⟨rfl, hB⟩
set_option maxHeartbeats 1000000 in
theorem confs09 (p g m : Int) (w : World) (hT : Tab w) :
    Calls Tryd.prog 8 #[.agg #[.int .i64 p, .int .i64 g, .int .i64 m]] w fun e w' => e = .returned (.bool true) ∧ Below w.heap.size w w' := by
  have hB : Below w.heap.size w (w.alloc (.cells #[.int .i64 p, .int .i64 g, .int .i64 m] 46)) := (Below.refl _ _).alloc (Nat.le_refl _) _
  have HT2 := Lib.hid (hT.step hB)
  have HB := Lib.hid hB
  have b := Blk.new w 46 #[.int .i64 p, .int .i64 g, .int .i64 m]
  have HBK := Lib.hid b
  clear hB hT b
  go_enter Tryd.func8, Tryd.ntmps8
  go_wp2_with fail
  generalize (w.alloc (.cells #[.int .i64 p, .int .i64 g, .int .i64 m] 46)) = W at *
  have t0 : ∀ w', Below W.heap.size W w' → w'.cell? ⟨w.heap.size, 0, none⟩ = some (.int .i64 p) := fun w' h => (HBK.out.below h HBK.out.lt).cell 0
  have t1 : ∀ w', Below W.heap.size W w' → w'.cell? ⟨w.heap.size, 1, none⟩ = some (.int .i64 g) := fun w' h => (HBK.out.below h HBK.out.lt).cell 1
  have t2 : ∀ w', Below W.heap.size W w' → w'.cell? ⟨w.heap.size, 2, none⟩ = some (.int .i64 m) := fun w' h => (HBK.out.below h HBK.out.lt).cell 2
  refine region_below W W.heap.size (by kernel_rfl) (by kernel_rfl) (Below.refl _ _) ?_
  repeat (first | go_big_quiet_skip | (go_big_quiet_want; first | (go_big_quiet_op; first | go_big_quiet_on | ((first | with_reducible refine ⟨_, fun _ _ => rfl, ?_⟩ | with_reducible refine ⟨_, fun w' hw' => calm_of hw' (Nat.le_refl _) (conf_any _ _ _ _), ?_⟩ | with_reducible refine ⟨_, fun w' hw' => calm_of hw' (Nat.le_refl _) (rconf_any _ _ _ _), ?_⟩ | with_reducible refine ⟨_, fun w' hw' => calm_of hw' (Nat.le_refl _) (alive09 _ (HT2.out.step hw')), ?_⟩); go_big_quiet_on)) | (simp (contextual := true) [go_sem, t0, t1, t2]; with_reducible refine ⟨_, fun _ _ => rfl, ?_⟩; go_big_quiet_on)))
  refine wpQuiet_nil ?_
  intro w2 hw2
  go_wp2
  go_ret
  exact ⟨rfl, HB.out.trans (hw2.mono HB.out.size)⟩
end Go.Proofs.YthhmnipggienaaaDoor

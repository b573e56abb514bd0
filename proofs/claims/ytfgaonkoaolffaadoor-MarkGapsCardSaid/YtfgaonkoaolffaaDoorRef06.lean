/-
  Contracts of the reference escapementref06 (but Check), in the words of the table.
-/
import Derived.Test.YtfgaonkoaolffaaDoorIsaOp
import Derived.Test.YtfgaonkoaolffaaDoorBlk
namespace Go.Proofs.YtfgaonkoaolffaaDoor
open Go.RowKit
theorem op24 (op : Int) (h : ¬ (op < 0 ∨ 24 ≤ op)) : op = 0 ∨ op = 1 ∨ op = 2 ∨ op = 3 ∨ op = 4 ∨ op = 5 ∨ op = 6 ∨ op = 7 ∨ op = 8 ∨ op = 9 ∨ op = 10 ∨ op = 11 ∨ op = 12 ∨ op = 13 ∨ op = 14 ∨ op = 15 ∨ op = 16 ∨ op = 17 ∨ op = 18 ∨ op = 19 ∨ op = 20 ∨ op = 21 ∨ op = 22 ∨ op = 23 := by omega
theorem out_facts (op : Int) (h : op < 0 ∨ 24 ≤ op) (k : Int) (h0 : 0 ≤ k) (h1 : k < 24) : (op == k) = false := beq_eq_false_iff_ne.2 (by omega)
set_option maxHeartbeats 4000000 in
theorem rregs_any (op : Int) (w : World) : Calls Tryd.prog 46 #[.int .i64 op] w fun e w' => e = .returned (.int .i64 (opRegs op)) ∧ w = w' := by
  by_cases h : op < 0 ∨ 24 ≤ op
  · have e : opRegs op = 0 := by simp [opRegs, opRow_out op h, noRow]
    rw [e]; clear e
    have h1 := out_facts op h 1 (by omega) (by omega)
    have h2 := out_facts op h 2 (by omega) (by omega)
    have h3 := out_facts op h 3 (by omega) (by omega)
    have h4 := out_facts op h 4 (by omega) (by omega)
    have h5 := out_facts op h 5 (by omega) (by omega)
    have h7 := out_facts op h 7 (by omega) (by omega)
    have h10 := out_facts op h 10 (by omega) (by omega)
    have h13 := out_facts op h 13 (by omega) (by omega)
    have h15 := out_facts op h 15 (by omega) (by omega)
    have h16 := out_facts op h 16 (by omega) (by omega)
    have h20 := out_facts op h 20 (by omega) (by omega)
    have h21 := out_facts op h 21 (by omega) (by omega)
    have h22 := out_facts op h 22 (by omega) (by omega)
    have h23 := out_facts op h 23 (by omega) (by omega)
    clear h
    go_enter Tryd.func46, Tryd.ntmps46
    go_wp2
    go_ret
    exact ⟨rfl, rfl⟩
  · rcases op24 op h with rfl | rfl | rfl | rfl | rfl | rfl | rfl | rfl | rfl | rfl | rfl | rfl | rfl | rfl | rfl | rfl | rfl | rfl | rfl | rfl | rfl | rfl | rfl | rfl
    all_goals
      clear h
      go_enter Tryd.func46, Tryd.ntmps46
      go_wp2
      go_ret
      exact ⟨by kernel_rfl, rfl⟩
set_option maxHeartbeats 4000000 in
theorem rtarget_any (op : Int) (w : World) : Calls Tryd.prog 47 #[.int .i64 op] w fun e w' => e = .returned (.int .i64 (opTarget op)) ∧ w = w' := by
  by_cases h : op < 0 ∨ 24 ≤ op
  · have e : opTarget op = 0 := by simp [opTarget, opRow_out op h, noRow]
    rw [e]; clear e
    have h6 := out_facts op h 6 (by omega) (by omega)
    have h7 := out_facts op h 7 (by omega) (by omega)
    have h8 := out_facts op h 8 (by omega) (by omega)
    have h10 := out_facts op h 10 (by omega) (by omega)
    clear h
    go_enter Tryd.func47, Tryd.ntmps47
    go_wp2
    go_ret
    exact ⟨rfl, rfl⟩
  · rcases op24 op h with rfl | rfl | rfl | rfl | rfl | rfl | rfl | rfl | rfl | rfl | rfl | rfl | rfl | rfl | rfl | rfl | rfl | rfl | rfl | rfl | rfl | rfl | rfl | rfl
    all_goals
      clear h
      go_enter Tryd.func47, Tryd.ntmps47
      go_wp2
      go_ret
      exact ⟨by kernel_rfl, rfl⟩
set_option maxHeartbeats 4000000 in
theorem rwaits_any (op : Int) (w : World) : Calls Tryd.prog 31 #[.int .i64 op] w fun e w' => e = .returned (.bool (opWaits op)) ∧ w = w' := by
  by_cases h : op < 0 ∨ 24 ≤ op
  · have e : opWaits op = false := by simp [opWaits, opRow_out op h, noRow]
    rw [e]; clear e
    have h11 := out_facts op h 11 (by omega) (by omega)
    have h12 := out_facts op h 12 (by omega) (by omega)
    have h16 := out_facts op h 16 (by omega) (by omega)
    have h17 := out_facts op h 17 (by omega) (by omega)
    have h19 := out_facts op h 19 (by omega) (by omega)
    have h20 := out_facts op h 20 (by omega) (by omega)
    clear h
    go_enter Tryd.func31, Tryd.ntmps31
    go_wp2
    go_ret
    exact ⟨rfl, rfl⟩
  · rcases op24 op h with rfl | rfl | rfl | rfl | rfl | rfl | rfl | rfl | rfl | rfl | rfl | rfl | rfl | rfl | rfl | rfl | rfl | rfl | rfl | rfl | rfl | rfl | rfl | rfl
    all_goals
      clear h
      go_enter Tryd.func31, Tryd.ntmps31
      go_wp2
      go_ret
      exact ⟨by kernel_rfl, rfl⟩
set_option maxHeartbeats 4000000 in
theorem rends_any (op : Int) (w : World) : Calls Tryd.prog 33 #[.int .i64 op] w fun e w' => e = .returned (.bool (opEnds op)) ∧ w = w' := by
  by_cases h : op < 0 ∨ 24 ≤ op
  · have e : opEnds op = false := by simp [opEnds, opRow_out op h, noRow]
    rw [e]; clear e
    have h6 := out_facts op h 6 (by omega) (by omega)
    have h9 := out_facts op h 9 (by omega) (by omega)
    have h14 := out_facts op h 14 (by omega) (by omega)
    clear h
    go_enter Tryd.func33, Tryd.ntmps33
    go_wp2
    go_ret
    exact ⟨rfl, rfl⟩
  · rcases op24 op h with rfl | rfl | rfl | rfl | rfl | rfl | rfl | rfl | rfl | rfl | rfl | rfl | rfl | rfl | rfl | rfl | rfl | rfl | rfl | rfl | rfl | rfl | rfl | rfl
    all_goals
      clear h
      go_enter Tryd.func33, Tryd.ntmps33
      go_wp2
      go_ret
      exact ⟨by kernel_rfl, rfl⟩

end Go.Proofs.YtfgaonkoaolffaaDoor

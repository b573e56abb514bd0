/-
  Chapter 12: what the reference's world answers: contract of (*escapementref12.world).answer. Condition: its world lies in one block.
-/
import Derived.Test.YtoacnphgkgklcaaDoorAns12
namespace Go.Proofs.YtoacnphgkgklcaaDoor
open Go.RowKit
def rwArr (d : Wd) : Array Value := #[.bool d.stopped, .bool d.token]
set_option maxHeartbeats 2000000 in
set_option maxRecDepth 100000 in
theorem rAnswer_any (d : Wd) (g : Nat) (op a b c n r : Int) (w : World) (hb : Blk w g 76 (rwArr d)) (base : Nat) (hbg : base ≤ g) :
    Calls Tryd.prog 38 #[.pointer (some ⟨g, 0, none⟩), .agg (insArr ⟨op, a, b, c, n⟩), .int .i64 r] w fun e w' => e = .returned (.int .i64 (ansA d op r).1) ∧ Blk w' g 76 (rwArr { d with token := (ansA d op r).2 }) ∧ Off1 w w' g ∧ Below base w w' := by
  have hgl : g < w.heap.size := hb.lt
  have hW : ∃ W : World, Hid (W = w.alloc (.cells #[.int .i64 op, .int .i64 a, .int .i64 b, .int .i64 c, .int .i64 n] 32)) := ⟨_, rfl⟩
  obtain ⟨W, HW⟩ := hW
  have hBW : Blk W g 76 (rwArr d) := by rw [HW.out]; exact hb.alloc _
  have HO1 := Lib.hid (show Off1 w W g by rw [HW.out]; exact ⟨by simp, fun k hk _ => Below.heap_alloc w _ k hk⟩)
  have HB1 := Lib.hid (show Below base w W by rw [HW.out]; exact (Below.refl _ _).alloc (by omega) _)
  have HBW1 := Lib.hid hBW
  have HBw := Lib.hid hb
  have q0 := hb.cell 0
  have q1 := hb.cell 1
  have f1 := hb.frozen 1
  unfold rwArr at q0 q1
  simp only [List.getElem?_toArray, List.getElem?_cons_zero, List.getElem?_cons_succ] at q0 q1
  unfold insArr
  clear hb hBW
  by_cases h10 : op = 10
  · have HA := Lib.hid (show ansA d op r = (-1, d.token) by unfold ansA; rw [if_pos (.inl h10)])
    subst h10
    go_enter Tryd.func38, Tryd.ntmps38
    go_wp2_with fail
    go_ret
    try rw [← HW.out]
    rw [HA.out]
    exact ⟨rfl, HBW1.out, HO1.out, HB1.out⟩
  by_cases h20 : op = 20
  · have HA := Lib.hid (show ansA d op r = (-1, d.token) by unfold ansA; rw [if_pos (.inr h20)])
    subst h20
    clear h10
    go_enter Tryd.func38, Tryd.ntmps38
    go_wp2_with fail
    go_ret
    try rw [← HW.out]
    rw [HA.out]
    exact ⟨rfl, HBW1.out, HO1.out, HB1.out⟩
  have hno : ¬ (op = 10 ∨ op = 20) := by omega
  by_cases h13 : op = 13
  · have HA := Lib.hid (show ansA d op r = (truthI (r == 1), d.token || r == 1) by unfold ansA; rw [if_neg hno, if_pos h13])
    subst h13
    clear h10 h20 hno
    by_cases hr : r = 1
    · subst hr
      go_enter Tryd.func38, Tryd.ntmps38
      go_wp2_with fail
      go_ret
      try rw [← HW.out]
      rw [HA.out]
      have hsz : (w.setCell ⟨g, 1, none⟩ (.bool true)).heap.size = w.heap.size := by simp [World.setCell]
      refine ⟨rfl, ?_, ⟨by rw [World.size_alloc, hsz]; omega, fun k hk hne => (Below.heap_alloc _ _ k (by rw [hsz]; exact hk)).trans (Below.heap_setCell w ⟨g, 1, none⟩ _ k hne)⟩, ((Below.refl base w).setCell (p := ⟨g, 1, none⟩) hbg _).alloc (by rw [hsz]; omega) _⟩
      have := (HBw.out.set_ 1 (.bool true)).alloc (.cells #[.int .i64 13, .int .i64 a, .int .i64 b, .int .i64 c, .int .i64 n] 32)
      unfold rwArr at this ⊢
      simpa using this
    · have hr' : (r == 1) = false := by simpa using hr
      rw [hr'] at HA
      clear hr
      go_enter Tryd.func38, Tryd.ntmps38
      go_wp2_with fail
      go_ret
      try rw [← HW.out]
      rw [HA.out]
      refine ⟨rfl, ?_, HO1.out, HB1.out⟩
      rw [Bool.or_false]
      exact HBW1.out
  by_cases h22 : op = 22
  · have HA := Lib.hid (show ansA d op r = (truthI (d.stopped && decide (1 ≤ r) && decide (r ≤ 256)), d.token) by unfold ansA; rw [if_neg hno, if_neg h13, if_pos h22])
    subst h22
    clear h10 h20 hno h13
    generalize hst : d.stopped = st at *
    have HBW2 := Lib.hid (show Blk W g 76 #[.bool st, .bool d.token] by have := HBW1.out; unfold rwArr at this; rw [hst] at this; exact this)
    clear hst
    have hr1 : decide (1 ≤ r) = true ∨ decide (1 ≤ r) = false := by cases decide (1 ≤ r) <;> simp
    have hr2 : decide (r ≤ 256) = true ∨ decide (r ≤ 256) = false := by cases decide (r ≤ 256) <;> simp
    cases st with
    | false =>
      go_enter Tryd.func38, Tryd.ntmps38
      go_wp2_with fail
      go_ret
      try rw [← HW.out]
      rw [HA.out]
      exact ⟨rfl, HBW2.out, HO1.out, HB1.out⟩
    | true =>
      rcases hr1 with hr1 | hr1
      · rcases hr2 with hr2 | hr2
        all_goals
          go_enter Tryd.func38, Tryd.ntmps38
          go_wp2_with fail
          go_ret
          try rw [← HW.out]
          rw [HA.out, hr1, hr2]
          exact ⟨rfl, HBW2.out, HO1.out, HB1.out⟩
      · go_enter Tryd.func38, Tryd.ntmps38
        go_wp2_with fail
        go_ret
        try rw [← HW.out]
        rw [HA.out, hr1]
        exact ⟨rfl, HBW2.out, HO1.out, HB1.out⟩
  by_cases h23 : op = 23
  · have HA := Lib.hid (show ansA d op r = (1, d.token) by unfold ansA; rw [if_neg hno, if_neg h13, if_neg h22, if_pos h23])
    subst h23
    clear h10 h20 hno h13 h22
    go_enter Tryd.func38, Tryd.ntmps38
    go_wp2_with fail
    go_ret
    try rw [← HW.out]
    rw [HA.out]
    exact ⟨rfl, HBW1.out, HO1.out, HB1.out⟩
  have HA := Lib.hid (show ansA d op r = (0, d.token) by unfold ansA; rw [if_neg hno, if_neg h13, if_neg h22, if_neg h23])
  have d10 : (op == 10) = false := by simpa using h10
  have d20 : (op == 20) = false := by simpa using h20
  have d13 : (op == 13) = false := by simpa using h13
  have d22 : (op == 22) = false := by simpa using h22
  have d23 : (op == 23) = false := by simpa using h23
  clear h10 h20 hno h13 h22 h23
  go_enter Tryd.func38, Tryd.ntmps38
  go_wp2_with fail
  go_ret
  try rw [← HW.out]
  rw [HA.out]
  exact ⟨rfl, HBW1.out, HO1.out, HB1.out⟩
end Go.Proofs.YtoacnphgkgklcaaDoor

/-
  Chapter 12: what the world of one goroutine answers: contracts of truth, (*world).answer. Condition: the world lies in one block.
-/
import Derived.Test.YtoacnphgkgklcaaDoorSub12
namespace Go.Proofs.YtoacnphgkgklcaaDoor
open Go.RowKit
def truthI (b : Bool) : Int := if b = true then 1 else 0
theorem truth_any (b : Bool) (w : World) : Calls Tryd.prog 46 #[.bool b] w fun e w' => e = .returned (.int .i64 (truthI b)) ∧ w = w' := by
  cases b with
  | true =>
    go_enter Tryd.func46, Tryd.ntmps46
    go_wp2_with fail
    go_ret
    exact ⟨rfl, rfl⟩
  | false =>
    go_enter Tryd.func46, Tryd.ntmps46
    go_wp2_with fail
    go_ret
    exact ⟨rfl, rfl⟩
/-- What the world answers, and the token behind. -/
def ansA (d : Wd) (op r : Int) : Int × Bool :=
  if op = 10 ∨ op = 20 then (-1, d.token) else if op = 13 then (truthI (r == 1), d.token || r == 1) else if op = 22 then (truthI (d.stopped && decide (1 ≤ r) && decide (r ≤ 256)), d.token) else if op = 23 then (1, d.token) else (0, d.token)
theorem wdArr_token {d : Wd} (E : Option Addr) (ce : Nat) (B : Option Addr) (cb : Nat) (h : d.th.regs.length = 8) (x : Bool) : (wdArr d E ce B cb).setIfInBounds 16 (.bool x) = wdArr { d with token := x } E ce B cb := by
  have hs := thArr_size B cb h
  unfold wdArr
  rw [List.setIfInBounds_toArray]
  congr 1
  rw [List.set_append_right _ _ (by simp [hs])]
  simp [hs]
theorem wdArr_same {d : Wd} (E : Option Addr) (ce : Nat) (B : Option Addr) (cb : Nat) : wdArr { d with token := d.token } E ce B cb = wdArr d E ce B cb := rfl
/-- All blocks but one lie as they lay. -/
def Off1 (w w' : World) (g : Nat) : Prop := w.heap.size ≤ w'.heap.size ∧ ∀ k, k < w.heap.size → k ≠ g → w'.heap[k]? = w.heap[k]?
theorem Off1.own {w w' : World} {g base : Nat} {e : TypeId} {size n c : Nat} {A : Option Addr} {xs : List Value} (h : Off1 w w' g) (ho : Own w base e size A n c xs) (hne : ob A = none ∨ ob A ≠ some g) : Own w' base e size A n c xs := by
  refine ⟨ho.1, ?_⟩
  rcases ho.2 with hv | ⟨k, cap, cur, hv, hbg, hh, hr⟩
  · exact .inl hv
  · have hk : k < w.heap.size := by
      rcases Nat.lt_or_ge k w.heap.size with h | h
      · exact h
      · rw [Array.getElem?_eq_none h] at hh; cases hh
    have hkg : k ≠ g := by
      rintro rfl
      injection hv with hv
      rw [hv] at hne
      rcases hne with h1 | h1
      · cases h1
      · exact h1 rfl
    exact .inr ⟨k, cap, cur, hv, hbg, (h.2 k hk hkg).trans hh, hr⟩
theorem Off1.blk {w w' : World} {g k : Nat} {t : TypeId} {cs : Array Value} (h : Off1 w w' g) (hb : Blk w k t cs) (hne : k ≠ g) : Blk w' k t cs := (h.2 k hb.lt hne).trans hb
theorem off1_of {w W w1 : World} {g : Nat} (h0 : w.heap.size ≤ W.heap.size) (h1 : ∀ k, k < w.heap.size → W.heap[k]? = w.heap[k]?) (hb : Below W.heap.size W w1) : Off1 w w1 g :=
  ⟨Nat.le_trans h0 hb.size, fun k hk _ => (hb.block k (Nat.lt_of_lt_of_le hk h0)).trans (h1 k hk)⟩
theorem Off1.set {w w1 : World} {g i : Nat} (h : Off1 w w1 g) (v : Value) : Off1 w (w1.setCell ⟨g, i, none⟩ v) g := by
  refine ⟨?_, fun k hk hne => ?_⟩
  · have := (grown_set w1 ⟨g, i, none⟩ v).size
    exact Nat.le_trans h.1 this
  · exact (Below.heap_setCell w1 ⟨g, i, none⟩ v k hne).trans (h.2 k hk hne)
set_option maxHeartbeats 2000000 in
set_option maxRecDepth 100000 in
theorem answer_any (d : Wd) (E B : Option Addr) (ce cb g : Nat) (op b c n : Int) (a : Nat) (ha : a < 8) (w : World) (hb : Blk w g 71 (wdArr d E ce B cb)) (h : d.th.regs.length = 8) (base : Nat) (hbg : base ≤ g) :
    Calls Tryd.prog 36 #[.pointer (some ⟨g, 0, none⟩), .agg (insArr ⟨op, a, b, c, n⟩)] w fun e w' => e = .returned (.int .i64 (ansA d op (d.th.regs.getD a 0)).1) ∧ Blk w' g 71 (wdArr { d with token := (ansA d op (d.th.regs.getD a 0)).2 } E ce B cb) ∧ Off1 w w' g ∧ Below base w w' := by
  have hgl : g < w.heap.size := hb.lt
  have hW : ∃ W : World, Hid (W = w.alloc (.cells #[.int .i64 op, .int .i64 (a : Int), .int .i64 b, .int .i64 c, .int .i64 n] 32)) := ⟨_, rfl⟩
  obtain ⟨W, HW⟩ := hW
  have hBI : Blk W w.heap.size 32 #[.int .i64 op, .int .i64 (a : Int), .int .i64 b, .int .i64 c, .int .i64 n] := by rw [HW.out]; exact Blk.new w _ _
  have hBW : Blk W g 71 (wdArr d E ce B cb) := by rw [HW.out]; exact hb.alloc _
  have hOW : ∀ k, k < w.heap.size → W.heap[k]? = w.heap[k]? := fun k hk => by rw [HW.out]; exact Below.heap_alloc w _ k hk
  have hBB : Below base w W := by rw [HW.out]; exact (Below.refl _ _).alloc (by omega) _
  have F0 : ∀ w', Below W.heap.size W w' → w'.cell? ⟨w.heap.size, 1, none⟩ = some (.int .i64 a) := fun w' h => (h.cell (p := ⟨w.heap.size, 1, none⟩) hBI.lt).trans (hBI.cell 1)
  have F1 : ∀ w', Below W.heap.size W w' → w'.cell? ⟨g, 4 + a, none⟩ = some (.int .i64 (d.th.regs.getD a 0)) := fun w' h' => (h'.cell (p := ⟨g, 4 + a, none⟩) hBW.lt).trans ((hBW.cell (4 + a)).trans (wdArr_reg E ce B cb h a ha))
  have HBI := Lib.hid hBI
  have HBW := Lib.hid hBW
  have HOW := Lib.hid hOW
  have HBB := Lib.hid hBB
  have HH := Lib.hid h
  have HSZ0 := Lib.hid (show w.heap.size ≤ W.heap.size by rw [HW.out]; simp)
  have HSZ := Lib.hid (show base ≤ W.heap.size by have := HSZ0.out; omega)
  generalize d.th.regs.getD a 0 = r at *
  unfold insArr
  clear hb hBI hBW hOW hBB h
  go_enter Tryd.func36, Tryd.ntmps36
  go_wp2_with fail
  rw [← HW.out]
  refine region_below W W.heap.size (by kernel_rfl) (by kernel_rfl) (Below.refl _ _) ?_
  repeat (first | go_big_quiet_skip | (go_big_quiet_want; first | (go_big_quiet_op; first | go_big_quiet_on | ((first | with_reducible refine ⟨_, fun _ _ => rfl, ?_⟩); go_big_quiet_on)) | (simp (contextual := true) [go_sem, F0, F1]; with_reducible refine ⟨_, fun _ _ => rfl, ?_⟩; go_big_quiet_on)))
  refine wpQuiet_nil ?_
  intro w1 hw1
  clear F0 F1
  have HO1 := Lib.hid (off1_of (g := g) HSZ0.out HOW.out hw1)
  have HB1 := Lib.hid (HBB.out.trans (hw1.mono HSZ.out))
  have HBW1 := Lib.hid (HBW.out.below hw1 HBW.out.lt)
  have i0 := (HBI.out.below hw1 HBI.out.lt).cell 0
  simp only [List.getElem?_toArray, List.getElem?_cons_zero] at i0
  have q15 := (HBW1.out.cell 15).trans (wdArr_end E ce B cb HH.out 1)
  have q16 := (HBW1.out.cell 16).trans (wdArr_end E ce B cb HH.out 2)
  have f16 := HBW1.out.frozen 16
  simp only [List.getElem?_cons_zero, List.getElem?_cons_succ] at q15 q16
  clear hw1
  by_cases h10 : op = 10
  · have HA := Lib.hid (show ansA d op r = (-1, d.token) by unfold ansA; rw [if_pos (.inl h10)])
    subst h10
    go_wp2_with fail
    go_ret
    rw [HA.out]
    exact ⟨rfl, HBW1.out, HO1.out, HB1.out⟩
  by_cases h20 : op = 20
  · have HA := Lib.hid (show ansA d op r = (-1, d.token) by unfold ansA; rw [if_pos (.inr h20)])
    subst h20
    clear h10
    go_wp2_with fail
    go_ret
    rw [HA.out]
    exact ⟨rfl, HBW1.out, HO1.out, HB1.out⟩
  have hno : ¬ (op = 10 ∨ op = 20) := by omega
  by_cases h13 : op = 13
  · have HA := Lib.hid (show ansA d op r = (truthI (r == 1), d.token || r == 1) by unfold ansA; rw [if_neg hno, if_pos h13])
    subst h13
    clear h10 h20 hno
    generalize htk : d.token = tk at *
    have HTK := Lib.hid htk
    clear htk
    cases tk with
    | true =>
      go_wp2_with fail
      refine (truth_any (r == 1) _).mono ?_
      rintro e w2 ⟨rfl, rfl⟩
      go_wp2_with fail
      go_ret
      rw [HA.out]
      refine ⟨rfl, ?_, HO1.out.set _, HB1.out.setCell (p := ⟨g, 16, none⟩) hbg _⟩
      have := HBW1.out.set_ 16 (.bool true)
      rw [wdArr_token E ce B cb HH.out] at this
      exact this
    | false =>
      go_wp2_with fail
      refine (truth_any (r == 1) _).mono ?_
      rintro e w2 ⟨rfl, rfl⟩
      go_wp2_with fail
      go_ret
      rw [HA.out]
      refine ⟨rfl, ?_, HO1.out.set _, HB1.out.setCell (p := ⟨g, 16, none⟩) hbg _⟩
      have := HBW1.out.set_ 16 (.bool (r == 1))
      rw [wdArr_token E ce B cb HH.out] at this
      rw [Bool.false_or]
      exact this
  by_cases h22 : op = 22
  · have HA := Lib.hid (show ansA d op r = (truthI (d.stopped && decide (1 ≤ r) && decide (r ≤ 256)), d.token) by unfold ansA; rw [if_neg hno, if_neg h13, if_pos h22])
    subst h22
    clear h10 h20 hno h13
    generalize hst : d.stopped = st at *
    have HST := Lib.hid hst
    clear hst
    have hr1 : decide (1 ≤ r) = true ∨ decide (1 ≤ r) = false := by cases decide (1 ≤ r) <;> simp
    have hr2 : decide (r ≤ 256) = true ∨ decide (r ≤ 256) = false := by cases decide (r ≤ 256) <;> simp
    cases st with
    | false =>
      go_wp2_with fail
      refine (truth_any false _).mono ?_
      rintro e w2 ⟨rfl, rfl⟩
      go_wp2_with fail
      go_ret
      rw [HA.out]
      exact ⟨rfl, HBW1.out, HO1.out, HB1.out⟩
    | true =>
      rcases hr1 with hr1 | hr1
      · rcases hr2 with hr2 | hr2
        all_goals
          go_wp2_with fail
          refine (truth_any _ _).mono ?_
          rintro e w2 ⟨rfl, rfl⟩
          go_wp2_with fail
          go_ret
          rw [HA.out, hr1, hr2]
          exact ⟨rfl, HBW1.out, HO1.out, HB1.out⟩
      · go_wp2_with fail
        refine (truth_any _ _).mono ?_
        rintro e w2 ⟨rfl, rfl⟩
        go_wp2_with fail
        go_ret
        rw [HA.out, hr1]
        exact ⟨rfl, HBW1.out, HO1.out, HB1.out⟩
  by_cases h23 : op = 23
  · have HA := Lib.hid (show ansA d op r = (1, d.token) by unfold ansA; rw [if_neg hno, if_neg h13, if_neg h22, if_pos h23])
    subst h23
    clear h10 h20 hno h13 h22
    go_wp2_with fail
    go_ret
    rw [HA.out]
    exact ⟨rfl, HBW1.out, HO1.out, HB1.out⟩
  have HA := Lib.hid (show ansA d op r = (0, d.token) by unfold ansA; rw [if_neg hno, if_neg h13, if_neg h22, if_neg h23])
  have d10 : (op == 10) = false := by simpa using h10
  have d20 : (op == 20) = false := by simpa using h20
  have d13 : (op == 13) = false := by simpa using h13
  have d22 : (op == 22) = false := by simpa using h22
  have d23 : (op == 23) = false := by simpa using h23
  clear h10 h20 hno h13 h22 h23
  go_wp2_with fail
  go_ret
  rw [HA.out]
  exact ⟨rfl, HBW1.out, HO1.out, HB1.out⟩
end Go.Proofs.YtoacnphgkgklcaaDoor

/-
  Chapter 7: contracts of slices.Equal at truths and at instructions, and of code.Same. Condition: both programs lie in memory.
-/
import Derived.Test.YthcbceaeobnmgaaDoorSame7g
import Derived.Test.YthcbceaeobnmgaaDoorFit7b
namespace Go.Proofs.YthcbceaeobnmgaaDoor
open Go.RowKit
set_option maxHeartbeats 1000000 in
theorem eqB_any (A B : Option Addr) (n m c d : Nat) (xs ys : List Bool) (w : World) (hn : xs.length = n) (hm : ys.length = m) (_hn : n ≤ maxLen) (_hm : m ≤ maxLen) (ha : Row w w.heap.size A (boolVals xs)) (hb : Row w w.heap.size B (boolVals ys)) :
    Calls Tryd.prog 35 #[.slice A n c, .slice B m d] w fun e w' => e = .returned (.bool (decide (xs = ys))) ∧ Below w.heap.size w w' := by
  unfold maxLen at _hn _hm
  by_cases hnm : n = m
  · subst hnm
    have HX := Lib.hid hn
    have HY := Lib.hid hm
    have HA := Lib.hid ha
    have HB := Lib.hid hb
    clear hn hm ha hb
    go_enter Tryd.func35, Tryd.ntmps35
    go_wp2_with fail
    go_loopw [13] (fun vi wr => ∃ k : Nat, k ≤ n ∧ vi = .int .i64 k ∧ xs.take k = ys.take k ∧ Below w.heap.size w wr) (fun vi _ => n - (intOf vi).toNat)
    case atStart => exact ⟨0, Nat.zero_le _, rfl, rfl, Below.refl _ _⟩
    case round =>
      obtain ⟨k, hk, rfl, ht, hbw⟩ := hrel
      have HT := Lib.hid ht
      clear ht
      by_cases hlt : k < n
      · have hkx : k < xs.length := by have := HX.out; omega
        have hky : k < ys.length := by have := HY.out; omega
        obtain ⟨b, off, rfl, hbl, hcx⟩ := HA.out.at_ (k := k) (by simpa [boolVals] using hkx)
        obtain ⟨b', off', rfl, hbl', hcy⟩ := HB.out.at_ (k := k) (by simpa [boolVals] using hky)
        have hx0 : ∀ w', Below w.heap.size w w' → w'.cell? ⟨b, off + k, none⟩ = some (.bool xs[k]) := fun w' h => (h.cell (p := ⟨b, off + k, none⟩) hbl).trans (hcx k _ (boolVals_at xs k hkx))
        have hy0 : ∀ w', Below w.heap.size w w' → w'.cell? ⟨b', off' + k, none⟩ = some (.bool ys[k]) := fun w' h => (h.cell (p := ⟨b', off' + k, none⟩) hbl').trans (hcy k _ (boolVals_at ys k hky))
        clear hcx hcy hbl hbl'
        by_cases he : xs[k] = ys[k]
        · have HE := Lib.hid he
          have he' : (xs[k] != ys[k]) = false := by simpa using he
          clear he
          generalize hX : xs[k] = x at *
          generalize hY : ys[k] = y at *
          have HXX := Lib.hid hX
          have HYY := Lib.hid hY
          clear hX hY
          cases x <;> cases y <;> first | (cases he'; done) | skip
          all_goals
            clear he'
            go_wp2_with fail
            refine region_below w w.heap.size (by kernel_rfl) (by kernel_rfl) hbw ?_
            repeat (first | go_big_quiet_skip | (go_big_quiet_want; first | (go_big_quiet_op; first | go_big_quiet_on | ((first | with_reducible refine ⟨_, fun _ _ => rfl, ?_⟩); go_big_quiet_on)) | (simp (contextual := true) [go_sem, hx0, hy0]; with_reducible refine ⟨_, fun _ _ => rfl, ?_⟩; go_big_quiet_on)))
            refine wpQuiet_nil ?_
            intro w1 hw1
            go_wp2_with fail
            go_roundw
            case rel => exact ⟨k + 1, by omega, by go_num, take_eq_succ xs ys k HT.out hkx hky (by rw [HXX.out, HYY.out]), hw1⟩
            case measure => simp [intOf]; omega
        · have he' : (xs[k] != ys[k]) = true := by simpa using he
          have hne : decide (xs = ys) = false := by
            simp only [decide_eq_false_iff_not]
            intro h; apply he; simp [h]
          have HE := Lib.hid hne
          clear he hne
          generalize xs[k] = x at *
          generalize ys[k] = y at *
          cases x <;> cases y <;> first | (cases he'; done) | skip
          all_goals
            clear he'
            go_wp2_with fail
            refine region_below w w.heap.size (by kernel_rfl) (by kernel_rfl) hbw ?_
            repeat (first | go_big_quiet_skip | (go_big_quiet_want; first | (go_big_quiet_op; first | go_big_quiet_on | ((first | with_reducible refine ⟨_, fun _ _ => rfl, ?_⟩); go_big_quiet_on)) | (simp (contextual := true) [go_sem, hx0, hy0]; with_reducible refine ⟨_, fun _ _ => rfl, ?_⟩; go_big_quiet_on)))
            refine wpQuiet_nil ?_
            intro w1 hw1
            go_wp2_with fail
            go_ret
            exact ⟨by rw [HE.out]; rfl, hw1⟩
      · have he : xs = ys := by
          have h1 := HX.out
          have h2 := HY.out
          have h3 := HT.out
          rwa [List.take_of_length_le (by omega), List.take_of_length_le (by omega)] at h3
        have he' : decide (xs = ys) = true := by simpa using he
        have HE := Lib.hid he'
        clear he he'
        go_wp2_with fail
        go_ret
        exact ⟨by rw [HE.out]; rfl, hbw⟩
  · have hne : decide (xs = ys) = false := by
      simp only [decide_eq_false_iff_not]
      rintro rfl; omega
    have hnm' : ((n : Int) != m) = true := by simp; omega
    rw [hne]
    clear hne ha hb hn hm hnm
    go_enter Tryd.func35, Tryd.ntmps35
    go_wp2_with fail
    go_ret
    exact ⟨rfl, Below.refl _ _⟩
/-- What is told of two things. -/
def EqIs {α : Type} (x y : α) (e : Ending) : Prop := ∃ q : Bool, e = .returned (.bool q) ∧ (q = true ↔ x = y)
theorem EqIs.no {α : Type} {x y : α} (h : ¬ x = y) : EqIs x y (.returned (.bool false)) := ⟨false, rfl, by simp [h]⟩
theorem EqIs.yes {α : Type} {x y : α} (h : x = y) : EqIs x y (.returned (.bool true)) := ⟨true, rfl, by simp [h]⟩
set_option maxHeartbeats 4000000 in
theorem eqI_any (A B : Option Addr) (n m c d : Nat) (xs ys : List Ins) (w : World) (hn : xs.length = n) (hm : ys.length = m) (_hn : n ≤ maxLen) (_hm : m ≤ maxLen) (ha : Row w w.heap.size A (xs.flatMap insVals)) (hb : Row w w.heap.size B (ys.flatMap insVals)) :
    Calls Tryd.prog 34 #[.slice A n c, .slice B m d] w fun e w' => EqIs xs ys e ∧ Below w.heap.size w w' := by
  unfold maxLen at _hn _hm
  have hq : ∃ Q : Ending → Prop, Hid (Q = EqIs xs ys) := ⟨_, rfl⟩
  obtain ⟨Q, HQ⟩ := hq
  rw [← HQ.out]
  by_cases hnm : n = m
  · subst hnm
    have HX := Lib.hid hn
    have HY := Lib.hid hm
    have HA := Lib.hid ha
    have HB := Lib.hid hb
    clear hn hm ha hb
    go_enter Tryd.func34, Tryd.ntmps34
    go_wp2_with fail
    go_loopw [13] (fun vi wr => ∃ k : Nat, k ≤ n ∧ vi = .int .i64 k ∧ Hid (xs.take k = ys.take k) ∧ Below w.heap.size w wr) (fun vi _ => n - (intOf vi).toNat)
    case atStart => exact ⟨0, Nat.zero_le _, rfl, rfl, Below.refl _ _⟩
    case round =>
      obtain ⟨k, hk, rfl, HT, hbw⟩ := hrel
      by_cases hlt : k < n
      · have hkx : k < xs.length := by have := HX.out; omega
        have hky : k < ys.length := by have := HY.out; omega
        obtain ⟨b1, o1, rfl, hb1, c0, c1, c2, c3, c4⟩ := row_ins5 HA.out k hkx
        obtain ⟨b2, o2, rfl, hb2, d0, d1, d2, d3, d4⟩ := row_ins5 HB.out k hky
        have t0 : ∀ w', Below w.heap.size w w' → w'.cell? ⟨b1, o1 + k * 5, none⟩ = some (.int .i64 xs[k].op) := fun w' h => (h.cell (p := ⟨b1, _, none⟩) hb1).trans c0
        have t1 : ∀ w', Below w.heap.size w w' → w'.cell? ⟨b1, o1 + k * 5 + 1, none⟩ = some (.int .i64 xs[k].a) := fun w' h => (h.cell (p := ⟨b1, _, none⟩) hb1).trans c1
        have t2 : ∀ w', Below w.heap.size w w' → w'.cell? ⟨b1, o1 + k * 5 + 2, none⟩ = some (.int .i64 xs[k].b) := fun w' h => (h.cell (p := ⟨b1, _, none⟩) hb1).trans c2
        have t3 : ∀ w', Below w.heap.size w w' → w'.cell? ⟨b1, o1 + k * 5 + 3, none⟩ = some (.int .i64 xs[k].c) := fun w' h => (h.cell (p := ⟨b1, _, none⟩) hb1).trans c3
        have t4 : ∀ w', Below w.heap.size w w' → w'.cell? ⟨b1, o1 + k * 5 + 4, none⟩ = some (.int .i64 xs[k].n) := fun w' h => (h.cell (p := ⟨b1, _, none⟩) hb1).trans c4
        have r0 : ∀ w', Below w.heap.size w w' → w'.cell? ⟨b2, o2 + k * 5, none⟩ = some (.int .i64 ys[k].op) := fun w' h => (h.cell (p := ⟨b2, _, none⟩) hb2).trans d0
        have r1 : ∀ w', Below w.heap.size w w' → w'.cell? ⟨b2, o2 + k * 5 + 1, none⟩ = some (.int .i64 ys[k].a) := fun w' h => (h.cell (p := ⟨b2, _, none⟩) hb2).trans d1
        have r2 : ∀ w', Below w.heap.size w w' → w'.cell? ⟨b2, o2 + k * 5 + 2, none⟩ = some (.int .i64 ys[k].b) := fun w' h => (h.cell (p := ⟨b2, _, none⟩) hb2).trans d2
        have r3 : ∀ w', Below w.heap.size w w' → w'.cell? ⟨b2, o2 + k * 5 + 3, none⟩ = some (.int .i64 ys[k].c) := fun w' h => (h.cell (p := ⟨b2, _, none⟩) hb2).trans d3
        have r4 : ∀ w', Below w.heap.size w w' → w'.cell? ⟨b2, o2 + k * 5 + 4, none⟩ = some (.int .i64 ys[k].n) := fun w' h => (h.cell (p := ⟨b2, _, none⟩) hb2).trans d4
        clear c0 c1 c2 c3 c4 d0 d1 d2 d3 d4
        have HIE := Lib.hid (take_ext HT.out hkx hky)
        have HID := Lib.hid (show ¬ xs[k] = ys[k] → Q (.returned (.bool false)) from fun h => by rw [HQ.out]; exact EqIs.no (fun e => h (by simp [e])))
        generalize xs[k] = i at *
        generalize ys[k] = i' at *
        obtain ⟨op, a1, a2, a3, n1⟩ := i
        obtain ⟨op', a1', a2', a3', n1'⟩ := i'
        simp only at t0 t1 t2 t3 t4 r0 r1 r2 r3 r4
        have six : ((op == op') = false) ∨ ((op == op') = true ∧ (a1 == a1') = false) ∨ ((op == op') = true ∧ (a1 == a1') = true ∧ (a2 == a2') = false) ∨ ((op == op') = true ∧ (a1 == a1') = true ∧ (a2 == a2') = true ∧ (a3 == a3') = false)
            ∨ ((op == op') = true ∧ (a1 == a1') = true ∧ (a2 == a2') = true ∧ (a3 == a3') = true ∧ (n1 == n1') = false) ∨ ((op == op') = true ∧ (a1 == a1') = true ∧ (a2 == a2') = true ∧ (a3 == a3') = true ∧ (n1 == n1') = true) := by
          cases (op == op') <;> cases (a1 == a1') <;> cases (a2 == a2') <;> cases (a3 == a3') <;> cases (n1 == n1') <;> simp
        rcases six with h1 | ⟨h1, h2⟩ | ⟨h1, h2, h3⟩ | ⟨h1, h2, h3, h4⟩ | ⟨h1, h2, h3, h4, h5⟩ | ⟨h1, h2, h3, h4, h5⟩
        · have HV := Lib.hid (HID.out (fun e => by injection e with e1 e2 e3 e4 e5; simp [e1] at h1))
          go_wp2_with fail
          refine region_below w w.heap.size (by kernel_rfl) (by kernel_rfl) hbw ?_
          repeat (first | go_big_quiet_skip | (go_big_quiet_want; first | (go_big_quiet_op; first | go_big_quiet_on | ((first | with_reducible refine ⟨_, fun _ _ => rfl, ?_⟩); go_big_quiet_on)) | (simp (contextual := true) [go_sem, t0, t1, t2, t3, t4, r0, r1, r2, r3, r4]; with_reducible refine ⟨_, fun _ _ => rfl, ?_⟩; go_big_quiet_on)))
          refine wpQuiet_nil ?_
          intro w3 hw3
          clear t0 t1 t2 t3 t4 r0 r1 r2 r3 r4
          go_wp2_with fail
          go_ret
          exact ⟨HV.out, hw3⟩
        · obtain rfl : op = op' := by simpa using h1
          have HV := Lib.hid (HID.out (fun e => by injection e with e1 e2 e3 e4 e5; simp [e2] at h2))
          clear h1
          go_wp2_with fail
          refine region_below w w.heap.size (by kernel_rfl) (by kernel_rfl) hbw ?_
          repeat (first | go_big_quiet_skip | (go_big_quiet_want; first | (go_big_quiet_op; first | go_big_quiet_on | ((first | with_reducible refine ⟨_, fun _ _ => rfl, ?_⟩); go_big_quiet_on)) | (simp (contextual := true) [go_sem, t0, t1, t2, t3, t4, r0, r1, r2, r3, r4]; with_reducible refine ⟨_, fun _ _ => rfl, ?_⟩; go_big_quiet_on)))
          refine wpQuiet_nil ?_
          intro w3 hw3
          clear t0 t1 t2 t3 t4 r0 r1 r2 r3 r4
          go_wp2_with fail
          go_ret
          exact ⟨HV.out, hw3⟩
        · obtain rfl : op = op' := by simpa using h1
          obtain rfl : a1 = a1' := by simpa using h2
          have HV := Lib.hid (HID.out (fun e => by injection e with e1 e2 e3 e4 e5; simp [e3] at h3))
          clear h1 h2
          go_wp2_with fail
          refine region_below w w.heap.size (by kernel_rfl) (by kernel_rfl) hbw ?_
          repeat (first | go_big_quiet_skip | (go_big_quiet_want; first | (go_big_quiet_op; first | go_big_quiet_on | ((first | with_reducible refine ⟨_, fun _ _ => rfl, ?_⟩); go_big_quiet_on)) | (simp (contextual := true) [go_sem, t0, t1, t2, t3, t4, r0, r1, r2, r3, r4]; with_reducible refine ⟨_, fun _ _ => rfl, ?_⟩; go_big_quiet_on)))
          refine wpQuiet_nil ?_
          intro w3 hw3
          clear t0 t1 t2 t3 t4 r0 r1 r2 r3 r4
          go_wp2_with fail
          go_ret
          exact ⟨HV.out, hw3⟩
        · obtain rfl : op = op' := by simpa using h1
          obtain rfl : a1 = a1' := by simpa using h2
          obtain rfl : a2 = a2' := by simpa using h3
          have HV := Lib.hid (HID.out (fun e => by injection e with e1 e2 e3 e4 e5; simp [e4] at h4))
          clear h1 h2 h3
          go_wp2_with fail
          refine region_below w w.heap.size (by kernel_rfl) (by kernel_rfl) hbw ?_
          repeat (first | go_big_quiet_skip | (go_big_quiet_want; first | (go_big_quiet_op; first | go_big_quiet_on | ((first | with_reducible refine ⟨_, fun _ _ => rfl, ?_⟩); go_big_quiet_on)) | (simp (contextual := true) [go_sem, t0, t1, t2, t3, t4, r0, r1, r2, r3, r4]; with_reducible refine ⟨_, fun _ _ => rfl, ?_⟩; go_big_quiet_on)))
          refine wpQuiet_nil ?_
          intro w3 hw3
          clear t0 t1 t2 t3 t4 r0 r1 r2 r3 r4
          go_wp2_with fail
          go_ret
          exact ⟨HV.out, hw3⟩
        · obtain rfl : op = op' := by simpa using h1
          obtain rfl : a1 = a1' := by simpa using h2
          obtain rfl : a2 = a2' := by simpa using h3
          obtain rfl : a3 = a3' := by simpa using h4
          have HV := Lib.hid (HID.out (fun e => by injection e with e1 e2 e3 e4 e5; simp [e5] at h5))
          clear h1 h2 h3 h4
          go_wp2_with fail
          refine region_below w w.heap.size (by kernel_rfl) (by kernel_rfl) hbw ?_
          repeat (first | go_big_quiet_skip | (go_big_quiet_want; first | (go_big_quiet_op; first | go_big_quiet_on | ((first | with_reducible refine ⟨_, fun _ _ => rfl, ?_⟩); go_big_quiet_on)) | (simp (contextual := true) [go_sem, t0, t1, t2, t3, t4, r0, r1, r2, r3, r4]; with_reducible refine ⟨_, fun _ _ => rfl, ?_⟩; go_big_quiet_on)))
          refine wpQuiet_nil ?_
          intro w3 hw3
          clear t0 t1 t2 t3 t4 r0 r1 r2 r3 r4
          go_wp2_with fail
          go_ret
          exact ⟨HV.out, hw3⟩
        · obtain rfl : op = op' := by simpa using h1
          obtain rfl : a1 = a1' := by simpa using h2
          obtain rfl : a2 = a2' := by simpa using h3
          obtain rfl : a3 = a3' := by simpa using h4
          obtain rfl : n1 = n1' := by simpa using h5
          have HV := Lib.hid (HIE.out rfl)
          clear h1 h2 h3 h4 h5
          go_wp2_with fail
          refine region_below w w.heap.size (by kernel_rfl) (by kernel_rfl) hbw ?_
          repeat (first | go_big_quiet_skip | (go_big_quiet_want; first | (go_big_quiet_op; first | go_big_quiet_on | ((first | with_reducible refine ⟨_, fun _ _ => rfl, ?_⟩); go_big_quiet_on)) | (simp (contextual := true) [go_sem, t0, t1, t2, t3, t4, r0, r1, r2, r3, r4]; with_reducible refine ⟨_, fun _ _ => rfl, ?_⟩; go_big_quiet_on)))
          refine wpQuiet_nil ?_
          intro w3 hw3
          clear t0 t1 t2 t3 t4 r0 r1 r2 r3 r4
          go_wp2_with fail
          go_roundw
          case rel => exact ⟨k + 1, by omega, by go_num, HV.out, hw3⟩
          case measure => simp [intOf]; omega
      · have HV := Lib.hid (show Q (.returned (.bool true)) by rw [HQ.out]; exact EqIs.yes (takes_eq HT.out (by rw [HX.out]; omega) (by rw [HY.out]; omega)))
        go_wp2_with fail
        go_ret
        exact ⟨HV.out, hbw⟩
  · have HV := Lib.hid (show Q (.returned (.bool false)) by rw [HQ.out]; exact EqIs.no (fun e => hnm (by rw [← hn, ← hm, e])))
    have hne : ((n : Int) != m) = true := by simp; omega
    clear hnm hn hm ha hb
    go_enter Tryd.func34, Tryd.ntmps34
    go_wp2_with fail
    go_ret
    exact ⟨HV.out, Below.refl _ _⟩
set_option maxHeartbeats 2000000 in
theorem eqF_any (a a' : FnA) (f f' : Fn) (w : World) (hf : FnOk w w.heap.size a f) (hf' : FnOk w w.heap.size a' f') :
    Calls Tryd.prog 33 #[.agg #[.slice a.C a.n a.c, .slice a.S a.m a.d], .agg #[.slice a'.C a'.n a'.c, .slice a'.S a'.m a'.d]] w fun e w' => EqIs f f' e ∧ Below w.heap.size w w' := by
  obtain ⟨C, fn, fc, S, fm, fd⟩ := a
  obtain ⟨C', fn', fc', S', fm', fd'⟩ := a'
  have hq : ∃ Q : Ending → Prop, Hid (Q = EqIs f f') := ⟨_, rfl⟩
  obtain ⟨Q, HQ⟩ := hq
  rw [← HQ.out]
  have hW : ∃ W : World, Hid (W = (w.alloc (.cells #[.slice C fn fc, .slice S fm fd] 31)).alloc (.cells #[.slice C' fn' fc', .slice S' fm' fd'] 31)) := ⟨_, rfl⟩
  obtain ⟨W, HW⟩ := hW
  have HB := Lib.hid (show Below w.heap.size w W by rw [HW.out]; exact ((Below.refl _ _).alloc (Nat.le_refl _) _).alloc (by simp) _)
  have HF := Lib.hid (hf.step HB.out)
  have HF' := Lib.hid (hf'.step HB.out)
  have HBF := Lib.hid (show Blk W w.heap.size 31 #[.slice C fn fc, .slice S fm fd] by rw [HW.out]; exact (Blk.new _ _ _).alloc _)
  have HBG := Lib.hid (show Blk W (w.heap.size + 1) 31 #[.slice C' fn' fc', .slice S' fm' fd'] by
    rw [HW.out]
    have h := Blk.new (w.alloc (.cells #[.slice C fn fc, .slice S fm fd] 31)) 31 #[.slice C' fn' fc', .slice S' fm' fd']
    rw [World.size_alloc] at h
    exact h)
  have HE := Lib.hid (eqI_any C C' fn fn' fc fc' f.code f'.code W HF.out.1.symm HF'.out.1.symm HF.out.2.2.2.2.1 HF'.out.2.2.2.2.1 HF.out.2.2.1 HF'.out.2.2.1)
  clear hf hf'
  go_enter Tryd.func33, Tryd.ntmps33
  go_wp2_with fail
  rw [← HW.out]
  refine HE.out.mono ?_
  rintro e w1 ⟨⟨q, rfl, hqi⟩, hb1⟩
  have HB1 := Lib.hid (HB.out.trans (hb1.mono HB.out.size))
  have HBF1 := Lib.hid (HBF.out.below hb1 HBF.out.lt)
  have HBG1 := Lib.hid (HBG.out.below hb1 HBG.out.lt)
  have HF1 := Lib.hid (HF.out.step hb1)
  have HF1' := Lib.hid (HF'.out.step hb1)
  have x1 := HBF1.out.cell 1
  have y1 := HBG1.out.cell 1
  simp only [List.getElem?_toArray, List.getElem?_cons_zero, List.getElem?_cons_succ] at x1 y1
  clear hb1
  cases q with
  | false =>
    have HV := Lib.hid (show Q (.returned (.bool false)) by rw [HQ.out]; exact EqIs.no (fun e => by have := hqi.2 (by rw [e]); cases this))
    clear hqi
    go_wp2_with fail
    go_ret
    exact ⟨HV.out, HB1.out⟩
  | true =>
    have HCE := Lib.hid (hqi.1 rfl)
    clear hqi
    go_wp2_with fail
    refine (eqB_any S S' fm fm' fd fd' f.safe f'.safe w1 HF1.out.2.1.symm HF1'.out.2.1.symm HF1.out.2.2.2.2.2.1 HF1'.out.2.2.2.2.2.1 HF1.out.2.2.2.1 HF1'.out.2.2.2.1).mono ?_
    rintro e w2 ⟨rfl, hb2⟩
    have HB2 := Lib.hid (HB1.out.trans (hb2.mono HB1.out.size))
    clear hb2
    have HV := Lib.hid (show Q (.returned (.bool (decide (f.safe = f'.safe)))) by
      rw [HQ.out]
      refine ⟨_, rfl, ?_⟩
      rw [decide_eq_true_eq]
      exact ⟨fun h => fn_ext HCE.out h, fun h => by rw [h]⟩)
    generalize decide (f.safe = f'.safe) = z at *
    go_wp2_with fail
    go_ret
    exact ⟨HV.out, HB2.out⟩
set_option maxHeartbeats 4000000 in
set_option maxRecDepth 100000 in
theorem eqFs_any (A B : Option Addr) (n m c d : Nat) (fs gs : List Fn) (w : World) (hn : fs.length = n) (hm : gs.length = m) (_hn : n ≤ maxLen) (_hm : m ≤ maxLen) (ha : FnsOk w w.heap.size A fs) (hb : FnsOk w w.heap.size B gs) :
    Calls Tryd.prog 32 #[.slice A n c, .slice B m d, .func (.func 33) #[] #[]] w fun e w' => EqIs fs gs e ∧ Below w.heap.size w w' := by
  unfold maxLen at _hn _hm
  have hq : ∃ Q : Ending → Prop, Hid (Q = EqIs fs gs) := ⟨_, rfl⟩
  obtain ⟨Q, HQ⟩ := hq
  rw [← HQ.out]
  by_cases hnm : n = m
  · subst hnm
    have HX := Lib.hid hn
    have HY := Lib.hid hm
    have HA := Lib.hid ha
    have HB := Lib.hid hb
    clear hn hm ha hb
    go_enter Tryd.func32, Tryd.ntmps32
    go_wp2_with fail
    go_loopw [17] (fun vi wr => ∃ k : Nat, k ≤ n ∧ vi = .int .i64 k ∧ Hid (fs.take k = gs.take k) ∧ Hid (Below w.heap.size w wr)) (fun vi _ => n - (intOf vi).toNat)
    case atStart => exact ⟨0, Nat.zero_le _, rfl, rfl, (show Below w.heap.size w w from Below.refl _ _)⟩
    case round =>
      obtain ⟨k, hk, rfl, HT, HBW⟩ := hrel
      by_cases hlt : k < n
      · have hkx : k < fs.length := by have := HX.out; omega
        have hky : k < gs.length := by have := HY.out; omega
        obtain ⟨b1, o1, a1, e1, hb1, c0, c1, hf1⟩ := (HA.out.step HBW.out).at_ k hkx
        obtain ⟨b2, o2, a2, e2, hb2, d0, d1, hf2⟩ := (HB.out.step HBW.out).at_ k hky
        subst e1 e2
        have hw0 : ∃ w0 : World, Hid (w0 = (wr.alloc (.cells #[.slice a1.C a1.n a1.c, .slice a1.S a1.m a1.d] 31)).alloc (.cells #[.slice a2.C a2.n a2.c, .slice a2.S a2.m a2.d] 31)) := ⟨_, rfl⟩
        obtain ⟨w0, HW0⟩ := hw0
        have HB0 := Lib.hid (show Below wr.heap.size wr w0 by rw [HW0.out]; exact ((Below.refl _ _).alloc (Nat.le_refl _) _).alloc (by simp) _)
        have HXF := Lib.hid (eqF_any a1 a2 fs[k] gs[k] w0 (hf1.step HB0.out) (hf2.step HB0.out))
        have HBW0 := Lib.hid (HBW.out.trans (HB0.out.mono HBW.out.size))
        have HFE := Lib.hid (take_ext HT.out hkx hky)
        have HFD := Lib.hid (show ¬ fs[k] = gs[k] → Q (.returned (.bool false)) from fun h => by rw [HQ.out]; exact EqIs.no (fun e => h (by simp [e])))
        clear hf1 hf2
        generalize fs[k] = f at *
        generalize gs[k] = f' at *
        obtain ⟨C, fn, fc, S, fm, fd⟩ := a1
        obtain ⟨C', fn', fc', S', fm', fd'⟩ := a2
        simp only at c0 c1 d0 d1 HXF HW0
        go_wp2_with fail
        rw [← HW0.out]
        refine HXF.out.mono ?_
        rintro e w1 ⟨⟨q, rfl, hqi⟩, hb⟩
        have HB1 := Lib.hid (HBW0.out.trans (hb.mono HBW0.out.size))
        clear hb
        cases q with
        | false =>
          have HV := Lib.hid (HFD.out (fun e => by have := hqi.2 e; cases this))
          clear hqi
          go_wp2_with fail
          go_ret
          exact ⟨HV.out, HB1.out⟩
        | true =>
          have HV := Lib.hid (HFE.out (hqi.1 rfl))
          clear hqi
          go_wp2_with fail
          exact ⟨⟨k + 1, by omega, by simp, HV, HB1⟩, by simp [intOf]; omega⟩
      · have HV := Lib.hid (show Q (.returned (.bool true)) by rw [HQ.out]; exact EqIs.yes (takes_eq HT.out (by rw [HX.out]; omega) (by rw [HY.out]; omega)))
        go_wp2_with fail
        go_ret
        exact ⟨HV.out, HBW.out⟩
  · have HV := Lib.hid (show Q (.returned (.bool false)) by rw [HQ.out]; exact EqIs.no (fun e => hnm (by rw [← hn, ← hm, e])))
    have hne : ((n : Int) != m) = true := by simp; omega
    clear hnm hn hm ha hb
    go_enter Tryd.func32, Tryd.ntmps32
    go_wp2_with fail
    go_ret
    exact ⟨HV.out, Below.refl _ _⟩
set_option maxHeartbeats 2000000 in
theorem codeSame_any (A B : Option Addr) (c d : Nat) (fs gs : List Fn) (w : World) (hm : fs.length ≤ maxLen) (hm2 : gs.length ≤ maxLen) (ha : FnsOk w w.heap.size A fs) (hb : FnsOk w w.heap.size B gs) :
    Calls Tryd.prog 15 #[.agg #[.slice A fs.length c], .agg #[.slice B gs.length d]] w fun e w' => EqIs fs gs e ∧ Below w.heap.size w w' := by
  have hW : ∃ W : World, Hid (W = (w.alloc (.cells #[.slice A fs.length c] 24)).alloc (.cells #[.slice B gs.length d] 24)) := ⟨_, rfl⟩
  obtain ⟨W, HW⟩ := hW
  have HBW := Lib.hid (show Below w.heap.size w W by rw [HW.out]; exact ((Below.refl _ _).alloc (Nat.le_refl _) _).alloc (by simp) _)
  have HX := Lib.hid (eqFs_any A B fs.length gs.length c d fs gs W rfl rfl hm hm2 (ha.step HBW.out) (hb.step HBW.out))
  clear hm hm2 ha hb
  go_enter Tryd.func15, Tryd.ntmps15
  go_wp2_with fail
  rw [← HW.out]
  refine HX.out.mono ?_
  rintro e w1 ⟨⟨q, rfl, hqi⟩, hb1⟩
  have HQI := Lib.hid hqi
  clear hqi
  go_wp2_with fail
  go_ret
  exact ⟨⟨q, rfl, HQI.out⟩, HBW.out.trans (hb1.mono HBW.out.size)⟩
end Go.Proofs.YthcbceaeobnmgaaDoor

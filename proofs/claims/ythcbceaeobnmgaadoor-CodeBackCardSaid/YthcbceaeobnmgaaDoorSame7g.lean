/-
  Contract of escapementref07.Same at any two programs. Condition: both lie in memory.
-/
import Derived.Test.YthcbceaeobnmgaaDoorSame7
namespace Go.Proofs.YthcbceaeobnmgaaDoor
open Go.RowKit
/-- What is told of two programs. -/
def SameIs (fs gs : List Fn) (e : Ending) : Prop := ∃ q : Bool, e = .returned (.bool q) ∧ (q = true ↔ fs = gs)
theorem SameIs.no {fs gs : List Fn} (h : ¬ fs = gs) : SameIs fs gs (.returned (.bool false)) := ⟨false, rfl, by simp [h]⟩
theorem SameIs.yes {fs gs : List Fn} (h : fs = gs) : SameIs fs gs (.returned (.bool true)) := ⟨true, rfl, by simp [h]⟩
theorem takes_eq {α : Type} {xs ys : List α} {k : Nat} (h : xs.take k = ys.take k) (h1 : xs.length ≤ k) (h2 : ys.length ≤ k) : xs = ys := by
  rw [List.take_of_length_le h1, List.take_of_length_le h2] at h
  exact h
theorem take_ext {α : Type} {xs ys : List α} {k : Nat} (h : xs.take k = ys.take k) (h1 : k < xs.length) (h2 : k < ys.length) (e : xs[k] = ys[k]) : xs.take (k + 1) = ys.take (k + 1) := take_eq_succ xs ys k h h1 h2 e
theorem fn_ext {f g : Fn} (h1 : f.code = g.code) (h2 : f.safe = g.safe) : f = g := by
  cases f; cases g
  simp only at h1 h2
  subst h1 h2
  rfl
set_option maxHeartbeats 4000000 in
theorem same7_any (A B : Option Addr) (c d : Nat) (fs gs : List Fn) (w : World) (hm : fs.length ≤ maxLen) (ha : FnsOk w w.heap.size A fs) (hb : FnsOk w w.heap.size B gs) :
    Calls Tryd.prog 10 #[.agg #[.slice A fs.length c], .agg #[.slice B gs.length d]] w fun e w' => SameIs fs gs e ∧ Below w.heap.size w w' := by
  have HQ : ∃ Q : Ending → Prop, Hid (Q = SameIs fs gs) := ⟨_, rfl⟩
  obtain ⟨Q, HQ⟩ := HQ
  rw [← HQ.out]
  by_cases hlen : fs.length = gs.length
  case neg =>
    have HV := Lib.hid (show Q (.returned (.bool false)) by rw [HQ.out]; exact SameIs.no (fun h => hlen (by rw [h])))
    unfold maxLen at hm
    have hne : ((fs.length : Int) != gs.length) = true := by simp; omega
    generalize fs.length = n at *
    generalize gs.length = n2 at *
    have HB := Lib.hid (show Below w.heap.size w ((w.alloc (.cells #[.slice A n c] 24)).alloc (.cells #[.slice B n2 d] 24)) from ((Below.refl _ _).alloc (Nat.le_refl _) _).alloc (by simp) _)
    clear ha hb hlen
    go_enter Tryd.func10, Tryd.ntmps10
    go_wp2_with fail
    go_ret
    exact ⟨HV.out, HB.out⟩
  have HLEN := Lib.hid hlen
  rw [← hlen]
  clear hlen
  generalize hn : fs.length = n at *
  unfold maxLen at hm
  have HA := Lib.hid ha
  have HC := Lib.hid hb
  have HN := Lib.hid hn
  have hB : Below w.heap.size w ((w.alloc (.cells #[.slice A n c] 24)).alloc (.cells #[.slice B n d] 24)) := ((Below.refl _ _).alloc (Nat.le_refl _) _).alloc (by simp) _
  have HB := Lib.hid hB
  clear ha hb hn hB
  go_enter Tryd.func10, Tryd.ntmps10
  go_wp2_with fail
  have HA2 := Lib.hid (HA.out.step HB.out)
  have HC2 := Lib.hid (HC.out.step HB.out)
  have b1 := (Blk.new w 24 #[.slice A n c]).alloc (.cells #[.slice B n d] 24)
  have b2 := Blk.new (w.alloc (.cells #[.slice A n c] 24)) 24 #[.slice B n d]
  have hs1 : (w.alloc (.cells #[.slice A n c] 24)).heap.size = w.heap.size + 1 := by simp
  rw [hs1] at b2
  have B1 := Lib.hid b1
  have B2 := Lib.hid b2
  clear b1 b2 hs1 HA HC
  generalize ((w.alloc (.cells #[.slice A n c] 24)).alloc (.cells #[.slice B n d] 24)) = W at *
  go_loopw [5] (fun vi wr => ∃ k : Nat, k ≤ n ∧ vi = .int .i64 k ∧ Hid (fs.take k = gs.take k) ∧ Below W.heap.size W wr) (fun vi _ => n - (intOf vi).toNat)
  case atStart => exact ⟨0, by omega, rfl, rfl, Below.refl _ _⟩
  case round =>
    obtain ⟨k, hk, rfl, HTE, hb⟩ := hrel
    have HBW := Lib.hid hb
    have p0 := (B1.out.below hb B1.out.lt).cell 0
    have p1 := (B2.out.below hb B2.out.lt).cell 0
    simp at p0 p1
    clear hb
    by_cases hlt : k < n
    · have hkc : k < fs.length := by rw [HN.out]; exact hlt
      have hkg : k < gs.length := by rw [← HLEN.out]; exact hlt
      have HFE := Lib.hid (take_ext HTE.out hkc hkg)
      have HFD := Lib.hid (show ¬ fs[k] = gs[k] → Q (.returned (.bool false)) from fun h => by rw [HQ.out]; exact SameIs.no (fun e => h (by simp [e])))
      obtain ⟨b, off, a, eA, hbb, c0, c1, hfn⟩ := (HA2.out.step HBW.out).at_ k hkc
      obtain ⟨b', off', a', eB, hbb', c0', c1', hfn'⟩ := (HC2.out.step HBW.out).at_ k hkg
      subst eA eB
      have HFN := Lib.hid hfn
      have HFN' := Lib.hid hfn'
      clear hfn hfn'
      generalize fs[k] = f at *
      generalize gs[k] = f' at *
      obtain ⟨C, fn, fc, S, fm, fd⟩ := a
      obtain ⟨C', fn', fc', S', fm', fd'⟩ := a'
      simp only at c0 c1 c0' c1'
      go_wp2_with fail
      go_cut [6, 7] (fun v6 v7 wc => ∃ g g', v6 = .pointer (some ⟨g, 0, none⟩) ∧ v7 = .pointer (some ⟨g', 0, none⟩) ∧ Blk wc g 31 #[.slice C fn fc, .slice S fm fd] ∧ Blk wc g' 31 #[.slice C' fn' fc', .slice S' fm' fd'] ∧ Below wr.heap.size wr wc)
      case first =>
        go_region_held3 (fun w' => w'.cell? ⟨w.heap.size, 0, none⟩ = some (.slice (some ⟨b, off, none⟩) n c) ∧ w'.cell? ⟨w.heap.size + 1, 0, none⟩ = some (.slice (some ⟨b', off', none⟩) n d) ∧ w'.cell? ⟨b, off + k * 2, none⟩ = some (.slice C fn fc) ∧ w'.cell? ⟨b, off + k * 2 + 1, none⟩ = some (.slice S fm fd) ∧ w'.cell? ⟨b', off' + k * 2, none⟩ = some (.slice C' fn' fc') ∧ w'.cell? ⟨b', off' + k * 2 + 1, none⟩ = some (.slice S' fm' fd')) (go_keep) (fail)
        · go_wp2_with fail
          go_meet
          case rel =>
            obtain ⟨q1, q2, q3⟩ := blk2 wr 31 31 #[.slice C fn fc, .slice S fm fd] #[.slice C' fn' fc', .slice S' fm' fd']
            exact ⟨_, _, rfl, rfl, q1, q2, q3⟩
        · go_wp2_with fail
          go_meet
          case rel =>
            obtain ⟨q1, q2, q3⟩ := blk2 wr 31 31 #[.slice C' fn' fc', .slice S' fm' fd'] #[.slice C fn fc, .slice S fm fd]
            exact ⟨_, _, rfl, rfl, q2, q1, q3⟩
      case rest =>
        obtain ⟨g, g', rfl, rfl, q1, q2, hbc⟩ := hcut
        have Q1 := Lib.hid q1
        have Q2 := Lib.hid q2
        have x0 := q1.cell 0
        have x1 := q1.cell 1
        have y0 := q2.cell 0
        have y1 := q2.cell 1
        simp at x0 x1 y0 y1
        have HBC := Lib.hid hbc
        have hfx0 : fn ≤ maxLen := HFN.out.2.2.2.2.1
        have hfx0' : fn' ≤ maxLen := HFN'.out.2.2.2.2.1
        unfold maxLen at hfx0 hfx0'
        by_cases hl : fn = fn'
        case neg =>
          have HV := Lib.hid (HFD.out (fun e => hl (by have h1 := HFN.out.1; have h2 := HFN'.out.1; simp only at h1 h2; rw [h1, h2, e])))
          have hne : ((fn : Int) != fn') = true := by simp; omega
          clear hl q1 q2 hbc c0 c1 c0' c1' p0 p1
          go_wp2_with fail
          go_ret
          exact ⟨HV.out, HB.out.trans ((HBW.out.trans (HBC.out.mono HBW.out.size)).mono HB.out.size)⟩
        have hl' : ((fn : Int) != fn') = false := by simp [hl]
        have HL := Lib.hid hl
        clear q1 q2 hbc c0 c1 c0' c1' p0 p1 hl hfx0 hfx0'
        go_wp2_with fail
        have hrow := (HFN.out.step HBC.out).2.2.2.1
        have hrow' := (HFN'.out.step HBC.out).2.2.2.1
        have hms : f.safe.length = fm := HFN.out.2.1.symm
        have hms' : f'.safe.length = fm' := HFN'.out.2.1.symm
        have hmx : fm ≤ maxLen := HFN.out.2.2.2.2.2.1
        have hmx' : fm' ≤ maxLen := HFN'.out.2.2.2.2.2.1
        refine (truths_any _ _ _ _ _ _ f.safe f'.safe _ hms hms' hmx hmx' hrow hrow').mono ?_
        rintro e w1 ⟨rfl, hb1⟩
        have HB1 := Lib.hid (HBC.out.trans (hb1.mono HBC.out.size))
        have Q1' := Lib.hid (Q1.out.below hb1 Q1.out.lt)
        have Q2' := Lib.hid (Q2.out.below hb1 Q2.out.lt)
        by_cases hsf : f.safe = f'.safe
        case neg =>
          have HV := Lib.hid (HFD.out (fun e => hsf (by rw [e])))
          rw [decide_eq_false hsf]
          clear hrow hrow' hms hms' hmx hmx' hb1 hsf
          go_wp2_with fail
          go_ret
          exact ⟨HV.out, HB.out.trans ((HBW.out.trans (HB1.out.mono HBW.out.size)).mono HB.out.size)⟩
        rw [decide_eq_true hsf]
        have HSF := Lib.hid hsf
        clear hsf
        clear hrow hrow' hms hms' hmx hmx' hb1 x0 x1 y0 y1
        have hfx : fn ≤ maxLen := HFN.out.2.2.2.2.1
        unfold maxLen at hfx
        have R1 := Lib.hid (HFN.out.step HB1.out)
        have R2 := Lib.hid (HFN'.out.step HB1.out)
        have HWR := Lib.hid (HBW.out.trans (HB1.out.mono HBW.out.size))
        go_wp2_with fail
        go_loopw [8] (fun vi w2 => ∃ j : Nat, j ≤ fn ∧ vi = .int .i64 j ∧ Hid (f.code.take j = f'.code.take j) ∧ Below w1.heap.size w1 w2) (fun vi _ => fn - (intOf vi).toNat)
        case atStart => exact ⟨0, Nat.zero_le _, rfl, rfl, Below.refl _ _⟩
        case round =>
          obtain ⟨j, hj, rfl, HTJ, hb2⟩ := hrel
          have H2 := Lib.hid hb2
          have x0 := (Q1'.out.below hb2 Q1'.out.lt).cell 0
          simp at x0
          clear hb2
          by_cases hjl : j < fn
          · have hjc : j < f.code.length := by have : fn = f.code.length := R1.out.1; omega
            have hjl' : j < fn' := by have := HL.out; omega
            have hjc' : j < f'.code.length := by have : fn' = f'.code.length := R2.out.1; omega
            have HIE := Lib.hid (take_ext HTJ.out hjc hjc')
            have HID := Lib.hid (show ¬ f.code[j] = f'.code[j] → Q (.returned (.bool false)) from fun h => HFD.out (fun e => h (by simp [e])))
            obtain ⟨b1, o1, e1, hb1, c0, c1, c2, c3, c4⟩ := R1.out.ins5 j hjc
            obtain ⟨b2, o2, e2, hb2, d0, d1, d2, d3, d4⟩ := R2.out.ins5 j hjc'
            simp only at e1 e2
            subst e1 e2
            generalize f.code[j] = i at *
            generalize f'.code[j] = i' at *
            obtain ⟨op, a1, a2, a3, n1⟩ := i
            obtain ⟨op', a1', a2', a3', n1'⟩ := i'
            simp only at c0 c1 c2 c3 c4 d0 d1 d2 d3 d4
            have s0 : ∀ w', Below w1.heap.size w1 w' → w'.cell? ⟨g, 0, none⟩ = some (.slice (some ⟨b1, o1, none⟩) fn fc) := fun w' h => (Q1'.out.below h Q1'.out.lt).cell 0
            have s1 : ∀ w', Below w1.heap.size w1 w' → w'.cell? ⟨g', 0, none⟩ = some (.slice (some ⟨b2, o2, none⟩) fn' fc') := fun w' h => (Q2'.out.below h Q2'.out.lt).cell 0
            have t0 : ∀ w', Below w1.heap.size w1 w' → w'.cell? ⟨b1, o1 + j * 5, none⟩ = some (.int .i64 op) := fun w' h => (h.cell (p := ⟨b1, _, none⟩) hb1).trans c0
            have t1 : ∀ w', Below w1.heap.size w1 w' → w'.cell? ⟨b1, o1 + j * 5 + 1, none⟩ = some (.int .i64 a1) := fun w' h => (h.cell (p := ⟨b1, _, none⟩) hb1).trans c1
            have t2 : ∀ w', Below w1.heap.size w1 w' → w'.cell? ⟨b1, o1 + j * 5 + 2, none⟩ = some (.int .i64 a2) := fun w' h => (h.cell (p := ⟨b1, _, none⟩) hb1).trans c2
            have t3 : ∀ w', Below w1.heap.size w1 w' → w'.cell? ⟨b1, o1 + j * 5 + 3, none⟩ = some (.int .i64 a3) := fun w' h => (h.cell (p := ⟨b1, _, none⟩) hb1).trans c3
            have t4 : ∀ w', Below w1.heap.size w1 w' → w'.cell? ⟨b1, o1 + j * 5 + 4, none⟩ = some (.int .i64 n1) := fun w' h => (h.cell (p := ⟨b1, _, none⟩) hb1).trans c4
            have r0 : ∀ w', Below w1.heap.size w1 w' → w'.cell? ⟨b2, o2 + j * 5, none⟩ = some (.int .i64 op') := fun w' h => (h.cell (p := ⟨b2, _, none⟩) hb2).trans d0
            have r1 : ∀ w', Below w1.heap.size w1 w' → w'.cell? ⟨b2, o2 + j * 5 + 1, none⟩ = some (.int .i64 a1') := fun w' h => (h.cell (p := ⟨b2, _, none⟩) hb2).trans d1
            have r2 : ∀ w', Below w1.heap.size w1 w' → w'.cell? ⟨b2, o2 + j * 5 + 2, none⟩ = some (.int .i64 a2') := fun w' h => (h.cell (p := ⟨b2, _, none⟩) hb2).trans d2
            have r3 : ∀ w', Below w1.heap.size w1 w' → w'.cell? ⟨b2, o2 + j * 5 + 3, none⟩ = some (.int .i64 a3') := fun w' h => (h.cell (p := ⟨b2, _, none⟩) hb2).trans d3
            have r4 : ∀ w', Below w1.heap.size w1 w' → w'.cell? ⟨b2, o2 + j * 5 + 4, none⟩ = some (.int .i64 n1') := fun w' h => (h.cell (p := ⟨b2, _, none⟩) hb2).trans d4
            clear c0 c1 c2 c3 c4 d0 d1 d2 d3 d4
            have six : ((op == op') = false) ∨ ((op == op') = true ∧ (a1 == a1') = false) ∨ ((op == op') = true ∧ (a1 == a1') = true ∧ (a2 == a2') = false) ∨ ((op == op') = true ∧ (a1 == a1') = true ∧ (a2 == a2') = true ∧ (a3 == a3') = false)
                ∨ ((op == op') = true ∧ (a1 == a1') = true ∧ (a2 == a2') = true ∧ (a3 == a3') = true ∧ (n1 == n1') = false) ∨ ((op == op') = true ∧ (a1 == a1') = true ∧ (a2 == a2') = true ∧ (a3 == a3') = true ∧ (n1 == n1') = true) := by
              cases (op == op') <;> cases (a1 == a1') <;> cases (a2 == a2') <;> cases (a3 == a3') <;> cases (n1 == n1') <;> simp
            rcases six with h1 | ⟨h1, h2⟩ | ⟨h1, h2, h3⟩ | ⟨h1, h2, h3, h4⟩ | ⟨h1, h2, h3, h4, h5⟩ | ⟨h1, h2, h3, h4, h5⟩
            · have HV := Lib.hid (HID.out (fun e => by injection e with e1 e2 e3 e4 e5; simp [e1] at h1))
              go_wp2_with fail
              refine region_below w1 w1.heap.size (by kernel_rfl) (by kernel_rfl) H2.out ?_
              repeat (first | go_big_quiet_skip | (go_big_quiet_want; first | (go_big_quiet_op; first | go_big_quiet_on | ((first | with_reducible refine ⟨_, fun _ _ => rfl, ?_⟩); go_big_quiet_on)) | (simp (contextual := true) [go_sem, s0, s1, t0, t1, t2, t3, t4, r0, r1, r2, r3, r4]; with_reducible refine ⟨_, fun _ _ => rfl, ?_⟩; go_big_quiet_on)))
              refine wpQuiet_nil ?_
              intro w3 hw3
              clear s0 s1 t0 t1 t2 t3 t4 r0 r1 r2 r3 r4
              go_wp2_with fail
              go_ret
              exact ⟨HV.out, HB.out.trans ((HWR.out.trans (hw3.mono HWR.out.size)).mono HB.out.size)⟩
            · obtain rfl : op = op' := by simpa using h1
              have HV := Lib.hid (HID.out (fun e => by injection e with e1 e2 e3 e4 e5; simp [e2] at h2))
              clear h1
              go_wp2_with fail
              refine region_below w1 w1.heap.size (by kernel_rfl) (by kernel_rfl) H2.out ?_
              repeat (first | go_big_quiet_skip | (go_big_quiet_want; first | (go_big_quiet_op; first | go_big_quiet_on | ((first | with_reducible refine ⟨_, fun _ _ => rfl, ?_⟩); go_big_quiet_on)) | (simp (contextual := true) [go_sem, s0, s1, t0, t1, t2, t3, t4, r0, r1, r2, r3, r4]; with_reducible refine ⟨_, fun _ _ => rfl, ?_⟩; go_big_quiet_on)))
              refine wpQuiet_nil ?_
              intro w3 hw3
              clear s0 s1 t0 t1 t2 t3 t4 r0 r1 r2 r3 r4
              go_wp2_with fail
              go_ret
              exact ⟨HV.out, HB.out.trans ((HWR.out.trans (hw3.mono HWR.out.size)).mono HB.out.size)⟩
            · obtain rfl : op = op' := by simpa using h1
              obtain rfl : a1 = a1' := by simpa using h2
              have HV := Lib.hid (HID.out (fun e => by injection e with e1 e2 e3 e4 e5; simp [e3] at h3))
              clear h1 h2
              go_wp2_with fail
              refine region_below w1 w1.heap.size (by kernel_rfl) (by kernel_rfl) H2.out ?_
              repeat (first | go_big_quiet_skip | (go_big_quiet_want; first | (go_big_quiet_op; first | go_big_quiet_on | ((first | with_reducible refine ⟨_, fun _ _ => rfl, ?_⟩); go_big_quiet_on)) | (simp (contextual := true) [go_sem, s0, s1, t0, t1, t2, t3, t4, r0, r1, r2, r3, r4]; with_reducible refine ⟨_, fun _ _ => rfl, ?_⟩; go_big_quiet_on)))
              refine wpQuiet_nil ?_
              intro w3 hw3
              clear s0 s1 t0 t1 t2 t3 t4 r0 r1 r2 r3 r4
              go_wp2_with fail
              go_ret
              exact ⟨HV.out, HB.out.trans ((HWR.out.trans (hw3.mono HWR.out.size)).mono HB.out.size)⟩
            · obtain rfl : op = op' := by simpa using h1
              obtain rfl : a1 = a1' := by simpa using h2
              obtain rfl : a2 = a2' := by simpa using h3
              have HV := Lib.hid (HID.out (fun e => by injection e with e1 e2 e3 e4 e5; simp [e4] at h4))
              clear h1 h2 h3
              go_wp2_with fail
              refine region_below w1 w1.heap.size (by kernel_rfl) (by kernel_rfl) H2.out ?_
              repeat (first | go_big_quiet_skip | (go_big_quiet_want; first | (go_big_quiet_op; first | go_big_quiet_on | ((first | with_reducible refine ⟨_, fun _ _ => rfl, ?_⟩); go_big_quiet_on)) | (simp (contextual := true) [go_sem, s0, s1, t0, t1, t2, t3, t4, r0, r1, r2, r3, r4]; with_reducible refine ⟨_, fun _ _ => rfl, ?_⟩; go_big_quiet_on)))
              refine wpQuiet_nil ?_
              intro w3 hw3
              clear s0 s1 t0 t1 t2 t3 t4 r0 r1 r2 r3 r4
              go_wp2_with fail
              go_ret
              exact ⟨HV.out, HB.out.trans ((HWR.out.trans (hw3.mono HWR.out.size)).mono HB.out.size)⟩
            · obtain rfl : op = op' := by simpa using h1
              obtain rfl : a1 = a1' := by simpa using h2
              obtain rfl : a2 = a2' := by simpa using h3
              obtain rfl : a3 = a3' := by simpa using h4
              have HV := Lib.hid (HID.out (fun e => by injection e with e1 e2 e3 e4 e5; simp [e5] at h5))
              clear h1 h2 h3 h4
              go_wp2_with fail
              refine region_below w1 w1.heap.size (by kernel_rfl) (by kernel_rfl) H2.out ?_
              repeat (first | go_big_quiet_skip | (go_big_quiet_want; first | (go_big_quiet_op; first | go_big_quiet_on | ((first | with_reducible refine ⟨_, fun _ _ => rfl, ?_⟩); go_big_quiet_on)) | (simp (contextual := true) [go_sem, s0, s1, t0, t1, t2, t3, t4, r0, r1, r2, r3, r4]; with_reducible refine ⟨_, fun _ _ => rfl, ?_⟩; go_big_quiet_on)))
              refine wpQuiet_nil ?_
              intro w3 hw3
              clear s0 s1 t0 t1 t2 t3 t4 r0 r1 r2 r3 r4
              go_wp2_with fail
              go_ret
              exact ⟨HV.out, HB.out.trans ((HWR.out.trans (hw3.mono HWR.out.size)).mono HB.out.size)⟩
            · obtain rfl : op = op' := by simpa using h1
              obtain rfl : a1 = a1' := by simpa using h2
              obtain rfl : a2 = a2' := by simpa using h3
              obtain rfl : a3 = a3' := by simpa using h4
              obtain rfl : n1 = n1' := by simpa using h5
              have HV := Lib.hid (HIE.out rfl)
              clear h1 h2 h3 h4 h5
              go_wp2_with fail
              refine region_below w1 w1.heap.size (by kernel_rfl) (by kernel_rfl) H2.out ?_
              repeat (first | go_big_quiet_skip | (go_big_quiet_want; first | (go_big_quiet_op; first | go_big_quiet_on | ((first | with_reducible refine ⟨_, fun _ _ => rfl, ?_⟩); go_big_quiet_on)) | (simp (contextual := true) [go_sem, s0, s1, t0, t1, t2, t3, t4, r0, r1, r2, r3, r4]; with_reducible refine ⟨_, fun _ _ => rfl, ?_⟩; go_big_quiet_on)))
              refine wpQuiet_nil ?_
              intro w3 hw3
              clear s0 s1 t0 t1 t2 t3 t4 r0 r1 r2 r3 r4
              go_wp2_with fail
              go_roundw
              case rel => exact ⟨j + 1, by omega, by go_num, HV.out, hw3⟩
              case measure => simp [intOf]; omega
          · go_wp2_with fail
            go_roundw
            case rel => exact ⟨k + 1, by omega, by go_num, HFE.out (fn_ext (takes_eq HTJ.out (by have : fn = f.code.length := R1.out.1; omega) (by have h1 : fn' = f'.code.length := R2.out.1; have := HL.out; omega)) HSF.out), HWR.out.trans (H2.out.mono HWR.out.size)⟩
            case measure => simp [intOf]; omega
    · go_wp2_with fail
      go_ret
      exact ⟨by rw [HQ.out]; exact SameIs.yes (takes_eq HTE.out (by rw [HN.out]; omega) (by rw [← HLEN.out]; omega)), HB.out.trans (HBW.out.mono HB.out.size)⟩
end Go.Proofs.YthcbceaeobnmgaaDoor

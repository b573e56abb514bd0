/-
  Contract of escapementref07.Same at equal programs: it answers true. Condition: both lie in memory.
-/
import Derived.Test.YtfgaonkoaolffaaDoorTruth
import Derived.Test.YtfgaonkoaolffaaDoorLight9
import Derived.Deep.DeepCutAuto
import Derived.Deep.RegionHeld3
namespace Go.Proofs.YtfgaonkoaolffaaDoor
open Go.RowKit
theorem blk2 (w : World) (t1 t2 : TypeId) (c1 c2 : Array Value) :
    Blk (((w.alloc (.cells c1 t1)).alloc (.cells c2 t2)).drew) w.heap.size t1 c1 ∧ Blk (((w.alloc (.cells c1 t1)).alloc (.cells c2 t2)).drew) (w.heap.size + 1) t2 c2 ∧ Below w.heap.size w (((w.alloc (.cells c1 t1)).alloc (.cells c2 t2)).drew) := by
  have s1 : (w.alloc (.cells c1 t1)).heap.size = w.heap.size + 1 := by simp
  have b2 := Blk.new (w.alloc (.cells c1 t1)) t2 c2
  rw [s1] at b2
  exact ⟨((Blk.new w t1 c1).alloc _).drew, b2.drew, (((Below.refl _ _).alloc (Nat.le_refl _) _).alloc (by simp) _).drew⟩
set_option maxHeartbeats 4000000 in
theorem same7_true (A B : Option Addr) (c d : Nat) (fs : List Fn) (w : World) (hm : fs.length ≤ maxLen) (ha : FnsOk w w.heap.size A fs) (hb : FnsOk w w.heap.size B fs) :
    Calls Tryd.prog 9 #[.agg #[.slice A fs.length c], .agg #[.slice B fs.length d]] w fun e w' => e = .returned (.bool true) ∧ Below w.heap.size w w' := by
  generalize hn : fs.length = n at *
  unfold maxLen at hm
  have HA := Lib.hid ha
  have HC := Lib.hid hb
  have HN := Lib.hid hn
  have hB : Below w.heap.size w ((w.alloc (.cells #[.slice A n c] 24)).alloc (.cells #[.slice B n d] 24)) := ((Below.refl _ _).alloc (Nat.le_refl _) _).alloc (by simp) _
  have HB := Lib.hid hB
  clear ha hb hn hB
  go_enter Tryd.func9, Tryd.ntmps9
  go_wp2_with fail
  have HA2 := Lib.hid (HA.out.step HB.out)
  have HC2 := Lib.hid (HC.out.step HB.out)
  have b1 := (Blk.new w 24 #[.slice A n c]).alloc (.cells #[.slice B n d] 24)
  have b2 := Blk.new (w.alloc (.cells #[.slice A n c] 24)) 24 #[.slice B n d]
  have hs1 : (w.alloc (.cells #[.slice A n c] 24)).heap.size = w.heap.size + 1 := by simp
  rw [hs1] at b2
  have B1 := Lib.hid b1
  have B2 := Lib.hid b2
  clear b1 b2 hs1 HA HC
  generalize ((w.alloc (.cells #[.slice A n c] 24)).alloc (.cells #[.slice B n d] 24)) = W at *
  go_loopw [5] (fun vi wr => ∃ k : Nat, k ≤ n ∧ vi = .int .i64 k ∧ Below W.heap.size W wr) (fun vi _ => n - (intOf vi).toNat)
  case atStart => exact ⟨0, by omega, rfl, Below.refl _ _⟩
  case round =>
    obtain ⟨k, hk, rfl, hb⟩ := hrel
    have HBW := Lib.hid hb
    have p0 := (B1.out.below hb B1.out.lt).cell 0
    have p1 := (B2.out.below hb B2.out.lt).cell 0
    simp at p0 p1
    clear hb
    by_cases hlt : k < n
    · have hkc : k < fs.length := by rw [HN.out]; exact hlt
      obtain ⟨b, off, a, eA, hbb, c0, c1, hfn⟩ := (HA2.out.step HBW.out).at_ k hkc
      obtain ⟨b', off', a', eB, hbb', c0', c1', hfn'⟩ := (HC2.out.step HBW.out).at_ k hkc
      subst eA eB
      have HFN := Lib.hid hfn
      have HFN' := Lib.hid hfn'
      clear hfn hfn'
      generalize fs[k] = f at *
      obtain ⟨C, fn, fc, S, fm, fd⟩ := a
      obtain ⟨C', fn', fc', S', fm', fd'⟩ := a'
      simp only at c0 c1 c0' c1'
      go_wp2_with fail
      go_cut [6, 7] (fun v6 v7 wc => ∃ g g', v6 = .pointer (some ⟨g, 0, none⟩) ∧ v7 = .pointer (some ⟨g', 0, none⟩) ∧ Blk wc g 39 #[.slice C fn fc, .slice S fm fd] ∧ Blk wc g' 39 #[.slice C' fn' fc', .slice S' fm' fd'] ∧ Below wr.heap.size wr wc)
      case first =>
        go_region_held3 (fun w' => w'.cell? ⟨w.heap.size, 0, none⟩ = some (.slice (some ⟨b, off, none⟩) n c) ∧ w'.cell? ⟨w.heap.size + 1, 0, none⟩ = some (.slice (some ⟨b', off', none⟩) n d) ∧ w'.cell? ⟨b, off + k * 2, none⟩ = some (.slice C fn fc) ∧ w'.cell? ⟨b, off + k * 2 + 1, none⟩ = some (.slice S fm fd) ∧ w'.cell? ⟨b', off' + k * 2, none⟩ = some (.slice C' fn' fc') ∧ w'.cell? ⟨b', off' + k * 2 + 1, none⟩ = some (.slice S' fm' fd')) (go_keep) (fail)
        · go_wp2_with fail
          go_meet
          case rel =>
            obtain ⟨q1, q2, q3⟩ := blk2 wr 39 39 #[.slice C fn fc, .slice S fm fd] #[.slice C' fn' fc', .slice S' fm' fd']
            exact ⟨_, _, rfl, rfl, q1, q2, q3⟩
        · go_wp2_with fail
          go_meet
          case rel =>
            obtain ⟨q1, q2, q3⟩ := blk2 wr 39 39 #[.slice C' fn' fc', .slice S' fm' fd'] #[.slice C fn fc, .slice S fm fd]
            exact ⟨_, _, rfl, rfl, q2, q1, q3⟩
      case rest =>
        obtain ⟨g, g', rfl, rfl, q1, q2, hbc⟩ := hcut
        have Q1 := Lib.hid q1
        have Q2 := Lib.hid q2
        have x0 := q1.cell 0
        have x1 := q1.cell 1
        have y0 := q2.cell 0
        have y1 := q2.cell 1
        simp at x0 x1 y0 y1
        have HBC := Lib.hid hbc
        have hl : fn = fn' := HFN.out.1.trans HFN'.out.1.symm
        have hl' : ((fn : Int) != fn') = false := by simp [hl]
        have HL := Lib.hid hl
        clear q1 q2 hbc c0 c1 c0' c1' p0 p1 hl
        go_wp2_with fail
        have hrow := (HFN.out.step HBC.out).2.2.2.1
        have hrow' := (HFN'.out.step HBC.out).2.2.2.1
        have hms : f.safe.length = fm := HFN.out.2.1.symm
        have hms' : f.safe.length = fm' := HFN'.out.2.1.symm
        have hmx : fm ≤ maxLen := HFN.out.2.2.2.2.2.1
        have hmx' : fm' ≤ maxLen := HFN'.out.2.2.2.2.2.1
        refine (truths_any _ _ _ _ _ _ f.safe f.safe _ hms hms' hmx hmx' hrow hrow').mono ?_
        rintro e w1 ⟨rfl, hb1⟩
        have HB1 := Lib.hid (HBC.out.trans (hb1.mono HBC.out.size))
        have Q1' := Lib.hid (Q1.out.below hb1 Q1.out.lt)
        have Q2' := Lib.hid (Q2.out.below hb1 Q2.out.lt)
        rw [decide_eq_true (rfl : f.safe = f.safe)]
        clear hrow hrow' hms hms' hmx hmx' hb1 x0 x1 y0 y1
        have hfx : fn ≤ maxLen := HFN.out.2.2.2.2.1
        unfold maxLen at hfx
        have R1 := Lib.hid (HFN.out.step HB1.out)
        have R2 := Lib.hid (HFN'.out.step HB1.out)
        have HWR := Lib.hid (HBW.out.trans (HB1.out.mono HBW.out.size))
        go_wp2_with fail
        go_loopw [8] (fun vi w2 => ∃ j : Nat, j ≤ fn ∧ vi = .int .i64 j ∧ Below w1.heap.size w1 w2) (fun vi _ => fn - (intOf vi).toNat)
        case atStart => exact ⟨0, Nat.zero_le _, rfl, Below.refl _ _⟩
        case round =>
          obtain ⟨j, hj, rfl, hb2⟩ := hrel
          have H2 := Lib.hid hb2
          have x0 := (Q1'.out.below hb2 Q1'.out.lt).cell 0
          simp at x0
          clear hb2
          by_cases hjl : j < fn
          · have hjc : j < f.code.length := by have : fn = f.code.length := R1.out.1; omega
            have hjl' : j < fn' := by have := HL.out; omega
            obtain ⟨b1, o1, e1, hb1, c0, c1, c2, c3, c4⟩ := R1.out.ins5 j hjc
            obtain ⟨b2, o2, e2, hb2, d0, d1, d2, d3, d4⟩ := R2.out.ins5 j hjc
            simp only at e1 e2
            subst e1 e2
            generalize f.code[j] = i at *
            obtain ⟨op, a1, a2, a3, n1⟩ := i
            simp only at c0 c1 c2 c3 c4 d0 d1 d2 d3 d4
            have s0 : ∀ w', Below w1.heap.size w1 w' → w'.cell? ⟨g, 0, none⟩ = some (.slice (some ⟨b1, o1, none⟩) fn fc) := fun w' h => (Q1'.out.below h Q1'.out.lt).cell 0
            have s1 : ∀ w', Below w1.heap.size w1 w' → w'.cell? ⟨g', 0, none⟩ = some (.slice (some ⟨b2, o2, none⟩) fn' fc') := fun w' h => (Q2'.out.below h Q2'.out.lt).cell 0
            have t0 : ∀ w', Below w1.heap.size w1 w' → w'.cell? ⟨b1, o1 + j * 5, none⟩ = some (.int .i64 op) := fun w' h => (h.cell (p := ⟨b1, _, none⟩) hb1).trans c0
            have t1 : ∀ w', Below w1.heap.size w1 w' → w'.cell? ⟨b1, o1 + j * 5 + 1, none⟩ = some (.int .i64 a1) := fun w' h => (h.cell (p := ⟨b1, _, none⟩) hb1).trans c1
            have t2 : ∀ w', Below w1.heap.size w1 w' → w'.cell? ⟨b1, o1 + j * 5 + 2, none⟩ = some (.int .i64 a2) := fun w' h => (h.cell (p := ⟨b1, _, none⟩) hb1).trans c2
            have t3 : ∀ w', Below w1.heap.size w1 w' → w'.cell? ⟨b1, o1 + j * 5 + 3, none⟩ = some (.int .i64 a3) := fun w' h => (h.cell (p := ⟨b1, _, none⟩) hb1).trans c3
            have t4 : ∀ w', Below w1.heap.size w1 w' → w'.cell? ⟨b1, o1 + j * 5 + 4, none⟩ = some (.int .i64 n1) := fun w' h => (h.cell (p := ⟨b1, _, none⟩) hb1).trans c4
            have r0 : ∀ w', Below w1.heap.size w1 w' → w'.cell? ⟨b2, o2 + j * 5, none⟩ = some (.int .i64 op) := fun w' h => (h.cell (p := ⟨b2, _, none⟩) hb2).trans d0
            have r1 : ∀ w', Below w1.heap.size w1 w' → w'.cell? ⟨b2, o2 + j * 5 + 1, none⟩ = some (.int .i64 a1) := fun w' h => (h.cell (p := ⟨b2, _, none⟩) hb2).trans d1
            have r2 : ∀ w', Below w1.heap.size w1 w' → w'.cell? ⟨b2, o2 + j * 5 + 2, none⟩ = some (.int .i64 a2) := fun w' h => (h.cell (p := ⟨b2, _, none⟩) hb2).trans d2
            have r3 : ∀ w', Below w1.heap.size w1 w' → w'.cell? ⟨b2, o2 + j * 5 + 3, none⟩ = some (.int .i64 a3) := fun w' h => (h.cell (p := ⟨b2, _, none⟩) hb2).trans d3
            have r4 : ∀ w', Below w1.heap.size w1 w' → w'.cell? ⟨b2, o2 + j * 5 + 4, none⟩ = some (.int .i64 n1) := fun w' h => (h.cell (p := ⟨b2, _, none⟩) hb2).trans d4
            clear c0 c1 c2 c3 c4 d0 d1 d2 d3 d4
            go_wp2_with fail
            refine region_below w1 w1.heap.size (by kernel_rfl) (by kernel_rfl) H2.out ?_
            repeat (first | go_big_quiet_skip | (go_big_quiet_want; first | (go_big_quiet_op; first | go_big_quiet_on | ((first | with_reducible refine ⟨_, fun _ _ => rfl, ?_⟩); go_big_quiet_on)) | (simp (contextual := true) [go_sem, s0, s1, t0, t1, t2, t3, t4, r0, r1, r2, r3, r4]; with_reducible refine ⟨_, fun _ _ => rfl, ?_⟩; go_big_quiet_on)))
            refine wpQuiet_nil ?_
            intro w3 hw3
            clear s0 s1 t0 t1 t2 t3 t4 r0 r1 r2 r3 r4
            go_wp2_with fail
            go_roundw
            case rel => exact ⟨j + 1, by omega, by go_num, hw3⟩
            case measure => simp [intOf]; omega
          · go_wp2_with fail
            go_roundw
            case rel => exact ⟨k + 1, by omega, by go_num, HWR.out.trans (H2.out.mono HWR.out.size)⟩
            case measure => simp [intOf]; omega
    · go_wp2_with fail
      go_ret
      exact ⟨rfl, HB.out.trans (HBW.out.mono HB.out.size)⟩
end Go.Proofs.YtfgaonkoaolffaaDoor

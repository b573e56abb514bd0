/-
  Chapter 7: contracts of the reference's long and Fits. Condition: the program lies in memory.
-/
import Derived.Test.YthcbceaeobnmgaaDoorFit7b
import Derived.Test.YthcbceaeobnmgaaDoorBlk
namespace Go.Proofs.YthcbceaeobnmgaaDoor
open Go.RowKit
theorem target_nat (op : Int) : 0 ≤ opTarget op := by
  by_cases h : op < 0 ∨ 24 ≤ op
  · simp [opTarget, opRow_out op h, noRow]
  · rcases op24 op h with rfl | rfl | rfl | rfl | rfl | rfl | rfl | rfl | rfl | rfl | rfl | rfl | rfl | rfl | rfl | rfl | rfl | rfl | rfl | rfl | rfl | rfl | rfl | rfl <;> decide +kernel
theorem number_all (op : Int) : opNumber op = (op == 1) := by
  cases h : isOpB op with
  | true => exact number_iff op h
  | false =>
    have h' : op < 0 ∨ 24 ≤ op := by simp [isOpB] at h; omega
    have : (op == 1) = false := by simp; omega
    rw [this]
    simp [opNumber, opRow_out op h', noRow]
theorem rlong_any (op : Int) (w : World) : Calls Tryd.prog 24 #[.int .i64 op] w fun e w' => e = .returned (.bool (longB op)) ∧ w = w' := by
  have ht := target_nat op
  have HY := Lib.hid (rtarget_any op w)
  have hv : longB op = ((op == 1) || decide (0 < opTarget op)) := by
    unfold longB
    rw [number_all]
    congr 1
    by_cases h : opTarget op = 0
    · simp [h]
    · have h2 : 0 < opTarget op := by omega
      simp [h, h2]
  rw [hv]
  generalize opTarget op = y at *
  clear hv
  cases h1 : (op == 1) with
  | true =>
    go_enter Tryd.func24, Tryd.ntmps24
    go_wp2_with fail
    go_ret
    exact ⟨rfl, rfl⟩
  | false =>
    go_enter Tryd.func24, Tryd.ntmps24
    go_wp2_with fail
    refine HY.out.mono ?_
    rintro e w1 ⟨rfl, rfl⟩
    go_wp2_with fail
    go_ret
    exact ⟨rfl, rfl⟩
set_option maxHeartbeats 4000000 in
set_option maxRecDepth 100000 in
theorem rfits_any (A : Option Addr) (c : Nat) (fs : List Fn) (w : World) (hn : fs.length ≤ maxLen) (hf : FnsOk w w.heap.size A fs) :
    Calls Tryd.prog 14 #[.agg #[.slice A fs.length c]] w fun e w' => e = .returned (.bool (fitsP fs)) ∧ Below w.heap.size w w' := by
  have hW : ∃ W : World, Hid (W = w.alloc (.cells #[.slice A fs.length c] 24)) := ⟨_, rfl⟩
  obtain ⟨W, HW⟩ := hW
  have hb : Below w.heap.size w W := by rw [HW.out]; exact (Below.refl _ _).alloc (Nat.le_refl _) _
  have HB := Lib.hid hb
  have HF := Lib.hid hf
  have HBP := Lib.hid (show Blk W w.heap.size 24 #[.slice A fs.length c] by rw [HW.out]; exact Blk.new _ _ _)
  have j0 := HBP.out.cell 0
  simp only [List.getElem?_toArray, List.getElem?_cons_zero] at j0
  have HNO := Lib.hid (show ∀ (f : Fn), f ∈ fs → fitsF f = false → fitsP fs = false from fun f h1 h2 => by
    unfold fitsP
    have : fs.all fitsF = false := by
      rw [List.all_eq_false]
      exact ⟨f, h1, by simp [h2]⟩
    rw [this, Bool.and_false])
  have HYES := Lib.hid (show fs.length ≤ 16 → (∀ f ∈ fs, fitsF f = true) → fitsP fs = true from fun h1 h2 => by
    unfold fitsP
    rw [decide_eq_true h1, Bool.true_and, List.all_eq_true]
    exact h2)
  have HBIG := Lib.hid (show 16 < fs.length → fitsP fs = false from fun h => by
    unfold fitsP
    have : decide (fs.length ≤ 16) = false := by simp; omega
    rw [this, Bool.false_and])
  generalize fitsP fs = q at *
  have hnn : ∃ n : Nat, Hid (fs.length = n) := ⟨_, rfl⟩
  obtain ⟨n, HN⟩ := hnn
  rw [HN.out] at j0 HBIG HYES ⊢
  rw [HN.out] at HBP HW hn
  unfold maxLen at hn
  clear hf hb
  by_cases h16 : 16 < n
  · have hv := HBIG.out h16
    subst hv
    have e16 : decide ((16 : Int) < n) = true := by simp; omega
    clear h16
    go_enter Tryd.func14, Tryd.ntmps14
    go_wp2_with fail
    go_ret
    exact ⟨rfl, by rw [← HW.out]; exact HB.out⟩
  · have hn16 : n ≤ 16 := by omega
    have e16 : decide ((16 : Int) < n) = false := by simp; omega
    clear h16 HBIG
    go_enter Tryd.func14, Tryd.ntmps14
    go_wp2_with fail
    rw [← HW.out]
    have HFW := Lib.hid (HF.out.step HB.out)
    go_loopw [3] (fun vi wr => ∃ k : Nat, k ≤ n ∧ vi = .int .i64 k ∧ Hid (∀ f ∈ fs.take k, fitsF f = true) ∧ Hid (Below W.heap.size W wr)) (fun vi _ => n - (intOf vi).toNat)
    case atStart => exact ⟨0, by omega, rfl, (fun f hf => by simp at hf), (show Below W.heap.size W W from Below.refl _ _)⟩
    case round =>
      obtain ⟨k, hk, rfl, HA, HBW⟩ := hrel
      have k0 := (HBP.out.below HBW.out HBP.out.lt).cell 0
      simp only [List.getElem?_toArray, List.getElem?_cons_zero] at k0
      clear j0
      by_cases hlt : k < n
      · have hkl : k < fs.length := by rw [HN.out]; exact hlt
        obtain ⟨b, off, a, eA, hbb, c0, c1, hfn⟩ := (HFW.out.step HBW.out).at_ k hkl
        subst eA
        have HFN := Lib.hid hfn
        have HTK := Lib.hid (List.take_succ_eq_append_getElem hkl)
        have HFNO := Lib.hid (HNO.out fs[k] (List.getElem_mem hkl))
        generalize fs[k] = f at *
        obtain ⟨C, fn, fc, S, fm, fd⟩ := a
        simp only at c0 c1
        have hfmx : fn ≤ 9223372036854775807 := by have := HFN.out.2.2.2.2.1; unfold maxLen at this; exact this
        have HCL := Lib.hid (show f.code.length = fn ∧ f.safe.length = fm from ⟨HFN.out.1.symm, HFN.out.2.1.symm⟩)
        clear hfn
        have hw1 : ∃ w1 : World, Hid (w1 = wr.alloc (.cells #[.slice C fn fc, .slice S fm fd] 31)) := ⟨_, rfl⟩
        obtain ⟨w1, HW1⟩ := hw1
        have HB1 := Lib.hid (show Below W.heap.size W w1 by rw [HW1.out]; exact HBW.out.alloc HBW.out.size _)
        have HBw1 := Lib.hid (HB.out.trans (HB1.out.mono HB.out.size))
        have HBF := Lib.hid (show Blk w1 wr.heap.size 31 #[.slice C fn fc, .slice S fm fd] by rw [HW1.out]; exact Blk.new _ _ _)
        by_cases h64 : 64 < fn
        · have e64 : decide ((64 : Int) < fn) = true := by simp; omega
          have HV := Lib.hid (HFNO.out (by unfold fitsF; have : decide (f.code.length ≤ 64) = false := by { rw [HCL.out.1]; simp; omega }; rw [this]; rfl))
          clear h64
          go_wp2_with fail
          go_ret
          exact ⟨by rw [HV.out]; rfl, by rw [← HW1.out]; exact HBw1.out⟩
        · have e64 : decide ((64 : Int) < fn) = false := by simp; omega
          have hf64 : fn ≤ 64 := by omega
          clear h64
          by_cases hmn : fm = fn
          · subst hmn
            go_wp2_with fail
            rw [← HW1.out]
            have hgf : ∃ gF : Nat, Hid (gF = wr.heap.size) := ⟨_, rfl⟩
            obtain ⟨gF, HGF⟩ := hgf
            rw [← HGF.out]
            rw [← HGF.out] at HBF
            have HF1 := Lib.hid (HFN.out.step (show Below wr.heap.size wr w1 by rw [HW1.out]; exact (Below.refl _ _).alloc (Nat.le_refl _) _))
            clear c0 c1 k0 hbb
            go_loopw [5] (fun vi wr => ∃ j : Nat, j ≤ fm ∧ vi = .int .i64 j ∧ Hid (∀ i ∈ f.code.take j, fitsI i = true) ∧ Hid (Below w1.heap.size w1 wr)) (fun vi _ => fm - (intOf vi).toNat)
            case atStart => exact ⟨0, by omega, rfl, (fun i hi => by simp at hi), (show Below w1.heap.size w1 w1 from Below.refl _ _)⟩
            case round =>
              obtain ⟨j, hj, rfl, HA2, HBW2⟩ := hrel
              have m0 := (HBF.out.below HBW2.out HBF.out.lt).cell 0
              simp only [List.getElem?_toArray, List.getElem?_cons_zero] at m0
              by_cases hjl : j < fm
              · have hjc : j < f.code.length := by rw [HCL.out.1]; exact hjl
                obtain ⟨bc, oc, eC, hbc, d0, d1, d2, d3, d4⟩ := (HF1.out.step HBW2.out).ins5 j hjc
                simp only at eC
                subst eC
                have HTJ := Lib.hid (List.take_succ_eq_append_getElem hjc)
                have HINO := Lib.hid (show fitsI f.code[j] = false → q = false from fun h => HFNO.out (by
                  unfold fitsF
                  have : f.code.all fitsI = false := by
                    rw [List.all_eq_false]
                    exact ⟨_, List.getElem_mem hjc, by simp [h]⟩
                  rw [this, Bool.and_false]))
                generalize f.code[j] = i at *
                obtain ⟨op, ia, ib, ic, inn⟩ := i
                simp only at d0 d1 d2 d3 d4
                have hw2 : ∃ w2 : World, Hid (w2 = wr.alloc (.cells #[.int .i64 op, .int .i64 ia, .int .i64 ib, .int .i64 ic, .int .i64 inn] 33)) := ⟨_, rfl⟩
                obtain ⟨w2, HW2⟩ := hw2
                have HB2 := Lib.hid (show Below w1.heap.size w1 w2 by rw [HW2.out]; exact HBW2.out.alloc HBW2.out.size _)
                have HBI := Lib.hid (show Blk w2 wr.heap.size 33 #[.int .i64 op, .int .i64 ia, .int .i64 ib, .int .i64 ic, .int .i64 inn] by rw [HW2.out]; exact Blk.new _ _ _)
                go_wp2_with fail
                rw [← HW2.out]
                refine (ris_any op w2).mono ?_
                rintro e w3 ⟨rfl, hb3⟩
                have HB3 := Lib.hid (HB2.out.trans (hb3.mono HB2.out.size))
                have HBI3 := Lib.hid (HBI.out.below hb3 HBI.out.lt)
                have n1 := HBI3.out.cell 1
                have n2 := HBI3.out.cell 2
                have n3 := HBI3.out.cell 3
                simp only [List.getElem?_toArray, List.getElem?_cons_zero, List.getElem?_cons_succ] at n1 n2 n3
                have HBF3 := Lib.hid (HBw1.out.trans (HB3.out.mono HBw1.out.size))
                clear hb3 d0 d1 d2 d3 d4 m0 hbc
                have hv : fitsI ⟨op, ia, ib, ic, inn⟩ = (isOpB op && (!decide (ia < 0) && !decide (255 < ia)) && (!decide (ib < 0) && !decide (255 < ib)) && (!decide (ic < 0) && !decide (255 < ic))) := by
                  have g : ∀ x : Int, nar x = (!decide (x < 0) && !decide (255 < x)) := fun x => by
                    unfold nar
                    congr 1
                    · by_cases h : x < 0 <;> simp [h] <;> omega
                    · by_cases h : 255 < x <;> simp [h] <;> omega
                  unfold fitsI
                  rw [g, g, g]
                rw [hv] at HINO
                have HIV := Lib.hid hv
                clear hv
                have seven : (isOpB op = false) ∨ (isOpB op = true ∧ decide (ia < 0) = true) ∨ (isOpB op = true ∧ decide (ia < 0) = false ∧ decide (255 < ia) = true)
                    ∨ (isOpB op = true ∧ decide (ia < 0) = false ∧ decide (255 < ia) = false ∧ decide (ib < 0) = true) ∨ (isOpB op = true ∧ decide (ia < 0) = false ∧ decide (255 < ia) = false ∧ decide (ib < 0) = false ∧ decide (255 < ib) = true)
                    ∨ (isOpB op = true ∧ decide (ia < 0) = false ∧ decide (255 < ia) = false ∧ decide (ib < 0) = false ∧ decide (255 < ib) = false ∧ decide (ic < 0) = true)
                    ∨ (isOpB op = true ∧ decide (ia < 0) = false ∧ decide (255 < ia) = false ∧ decide (ib < 0) = false ∧ decide (255 < ib) = false ∧ decide (ic < 0) = false ∧ decide (255 < ic) = true)
                    ∨ (isOpB op = true ∧ decide (ia < 0) = false ∧ decide (255 < ia) = false ∧ decide (ib < 0) = false ∧ decide (255 < ib) = false ∧ decide (ic < 0) = false ∧ decide (255 < ic) = false) := by
                  cases isOpB op <;> cases decide (ia < 0) <;> cases decide (255 < ia) <;> cases decide (ib < 0) <;> cases decide (255 < ib) <;> cases decide (ic < 0) <;> cases decide (255 < ic) <;> simp
                generalize isOpB op = y0 at *
                rcases seven with h0 | ⟨h0, h1⟩ | ⟨h0, h1, h2⟩ | ⟨h0, h1, h2, h3⟩ | ⟨h0, h1, h2, h3, h4⟩ | ⟨h0, h1, h2, h3, h4, h5⟩ | ⟨h0, h1, h2, h3, h4, h5, h6⟩ | ⟨h0, h1, h2, h3, h4, h5, h6⟩
                case inr.inr.inr.inr.inr.inr.inr =>
                  subst h0
                  have HOKI := Lib.hid (show fitsI ⟨op, ia, ib, ic, inn⟩ = true by rw [HIV.out, h1, h2, h3, h4, h5, h6]; rfl)
                  clear HINO HIV
                  go_wp2_with fail
                  refine ⟨⟨j + 1, by omega, by simp, (fun i hi => ?_), HB3⟩, by simp [intOf]; omega⟩
                  rw [HTJ.out, List.mem_append] at hi
                  rcases hi with hi | hi
                  · exact HA2.out i hi
                  · rw [List.mem_singleton] at hi
                    subst hi
                    exact HOKI.out
                case inl =>
                  subst h0
                  have HV := Lib.hid (HINO.out (by simp))
                  clear HINO HIV
                  go_wp2_with fail
                  go_ret
                  exact ⟨by rw [HV.out]; rfl, HBF3.out⟩
                case inr.inl =>
                  subst h0
                  have HV := Lib.hid (HINO.out (by rw [h1]; simp))
                  clear HINO HIV
                  go_wp2_with fail
                  go_ret
                  exact ⟨by rw [HV.out]; rfl, HBF3.out⟩
                case inr.inr.inl =>
                  subst h0
                  have HV := Lib.hid (HINO.out (by rw [h1, h2]; simp))
                  clear HINO HIV
                  go_wp2_with fail
                  go_ret
                  exact ⟨by rw [HV.out]; rfl, HBF3.out⟩
                case inr.inr.inr.inl =>
                  subst h0
                  have HV := Lib.hid (HINO.out (by rw [h1, h2, h3]; simp))
                  clear HINO HIV
                  go_wp2_with fail
                  go_ret
                  exact ⟨by rw [HV.out]; rfl, HBF3.out⟩
                case inr.inr.inr.inr.inl =>
                  subst h0
                  have HV := Lib.hid (HINO.out (by rw [h1, h2, h3, h4]; simp))
                  clear HINO HIV
                  go_wp2_with fail
                  go_ret
                  exact ⟨by rw [HV.out]; rfl, HBF3.out⟩
                case inr.inr.inr.inr.inr.inl =>
                  subst h0
                  have HV := Lib.hid (HINO.out (by rw [h1, h2, h3, h4, h5]; simp))
                  clear HINO HIV
                  go_wp2_with fail
                  go_ret
                  exact ⟨by rw [HV.out]; rfl, HBF3.out⟩
                case inr.inr.inr.inr.inr.inr.inl =>
                  subst h0
                  have HV := Lib.hid (HINO.out (by rw [h1, h2, h3, h4, h5, h6]; simp))
                  clear HINO HIV
                  go_wp2_with fail
                  go_ret
                  exact ⟨by rw [HV.out]; rfl, HBF3.out⟩
              · have hjm : f.code.take j = f.code := List.take_of_length_le (by rw [HCL.out.1]; omega)
                rw [hjm] at HA2
                have HOKF := Lib.hid (show fitsF f = true by
                  unfold fitsF
                  have e1 : decide (f.code.length ≤ 64) = true := by rw [HCL.out.1]; simpa using hf64
                  have e2 : decide (f.safe.length = f.code.length) = true := by rw [HCL.out.1, HCL.out.2]; simp
                  rw [e1, e2, Bool.true_and, Bool.true_and, List.all_eq_true]
                  exact HA2.out)
                have HBN := Lib.hid (HB1.out.trans (HBW2.out.mono HB1.out.size))
                clear hjm
                go_wp2_with fail
                refine ⟨⟨k + 1, by omega, by simp, (fun f' hf' => ?_), HBN⟩, by simp [intOf]; omega⟩
                rw [HTK.out, List.mem_append] at hf'
                rcases hf' with hf' | hf'
                · exact HA.out f' hf'
                · rw [List.mem_singleton] at hf'
                  subst hf'
                  exact HOKF.out
          · have hne : ((fm : Int) != fn) = true := by simp; omega
            have HV := Lib.hid (HFNO.out (by unfold fitsF; have : decide (f.safe.length = f.code.length) = false := by { rw [HCL.out.1, HCL.out.2]; simpa using hmn }; rw [this, Bool.and_false]; rfl))
            clear hmn
            go_wp2_with fail
            go_ret
            exact ⟨by rw [HV.out]; rfl, by rw [← HW1.out]; exact HBw1.out⟩
      · have hkn : fs.take k = fs := List.take_of_length_le (by rw [HN.out]; omega)
        rw [hkn] at HA
        have HV := Lib.hid (HYES.out hn16 HA.out)
        clear hkn
        go_wp2_with fail
        go_ret
        exact ⟨by rw [HV.out]; rfl, HB.out.trans (HBW.out.mono HB.out.size)⟩
end Go.Proofs.YthcbceaeobnmgaaDoor

/-
  Chapter 8: the law FlowSafe returns true, whatever is handed in. Condition: the table isa.rows.
-/
import Derived.Test.YtdpacdmaadodiaaDoorAlv8
namespace Go.Proofs.YtdpacdmaadodiaaDoor
open Go.RowKit
theorem gap_none' {n : Nat} {nx : Nat → List Nat} {op : Nat → Bool} (h : ∀ x, x < n → op x = false) : gapG n nx op = (0, true) := by
  have hm : mostF (lg nx op (n + 1)) n = 0 := by
    have := (most_le (f := lg nx op (n + 1)) (n := n) (b := 0)).2 fun x hx => by rw [lg_closed (h x hx)]; exact Nat.le_refl _
    omega
  unfold gapG
  rw [hm, if_neg (Nat.not_lt_zero _)]
theorem lg_mono' {n : Nat} {nx : Nat → List Nat} {op op' : Nat → Bool} (hc : ∀ x y, y ∈ nx x → y < n) (h : ∀ x, x < n → op' x = true → op x = true) (r x : Nat) (hx : x < n) : lg nx op' r x ≤ lg nx op r x := by
  induction r generalizing x with
  | zero => exact Nat.le_refl _
  | succ r ih =>
    unfold lg
    by_cases ho : op' x = true
    · rw [if_pos ho, if_pos (h x hx ho), foldmax_le]
      exact ⟨foldmax_ge, fun k hk => Nat.le_trans (by have := ih k (hc x k hk); omega) (foldmax_mem (f := fun k => 1 + lg nx op r k) hk)⟩
    · rw [if_neg ho]
      exact Nat.zero_le _
theorem gap_mono' {n : Nat} {nx : Nat → List Nat} {op op' : Nat → Bool} (hc : ∀ x y, y ∈ nx x → y < n) (h : ∀ x, x < n → op' x = true → op x = true) (hg : (gapG n nx op).2 = true) : (gapG n nx op').2 = true ∧ (gapG n nx op').1 ≤ (gapG n nx op).1 := by
  have hm : mostF (lg nx op' (n + 1)) n ≤ mostF (lg nx op (n + 1)) n := most_mono fun x hx => lg_mono' hc h _ x hx
  unfold gapG at hg ⊢
  by_cases hx : n < mostF (lg nx op (n + 1)) n
  · rw [if_pos hx] at hg
    cases hg
  · rw [if_neg hx, if_neg (by omega)]
    exact ⟨rfl, hm⟩
/-- One place more that is safe. -/
def mvB (pc : Int) (ss : List Bool) (i : Nat) : Bool := decide ((i : Int) = pc) || ss.getD i false
theorem Tryd.infoB8 : (Tryd.prog.info? 4).map (fun i => (i.zero, i.size, i.bytes)) = some (some (.bool false), 1, 1) := by kernel_rfl
theorem made_bool (n : Nat) : madeCells #[Value.bool false] n = (boolVals (List.replicate n false)).toArray := by
  apply Array.ext
  · rw [size_madeCells]; simp [boolVals]
  · intro i h1 h2
    rw [size_madeCells] at h1
    simp [madeCells, Nat.mod_one, boolVals]
theorem bools_set (l : List Bool) (k : Nat) (b : Bool) : (boolVals l).toArray.setIfInBounds k (.bool b) = (boolVals (l.set k b)).toArray := by simp [boolVals, List.map_set]
theorem fn_more {w : World} {B g : Nat} {a : FnA} {f : Fn} {l : List Bool} (h : FnOk w B a f) (hb : Blk w g 4 (boolVals l).toArray) (hg : g < B) (hl : l.length = a.n) : FnOk w B ⟨a.C, a.n, a.c, some ⟨g, 0, none⟩, a.n, a.n⟩ ⟨f.code, l⟩ :=
  ⟨h.1, hl.symm, h.2.2.1, row_of_blk hb hg, h.2.2.2.2.1, h.2.2.2.2.1, h.2.2.2.2.2.2⟩
set_option maxRecDepth 10000 in
set_option maxHeartbeats 4000000 in
theorem safe08 (A : Option Addr) (c : Nat) (fs : List Fn) (fi pc : Int) (w : World) (hT : Tab w) (hm : fs.length ≤ maxLen) (hf : FnsOk w w.heap.size A fs) :
    Calls Tryd.prog 3 #[.agg #[.slice A fs.length c], .int .i64 fi, .int .i64 pc] w fun e w' => e = .returned (.bool true) ∧ Below w.heap.size w w' := by
  obtain ⟨W, HW⟩ : ∃ W, Hid (W = w.alloc (.cells #[.slice A fs.length c] 24)) := ⟨_, Lib.hid rfl⟩
  have HB := Lib.hid (show Below w.heap.size w W by rw [HW.out]; exact (Below.refl _ _).alloc (Nat.le_refl _) _)
  have HP := Lib.hid (show Blk W w.heap.size 24 #[.slice A fs.length c] by rw [HW.out]; exact Blk.new w _ _)
  have HC := Lib.hid (light8_any A c fs W hm (hf.step HB.out))
  have HF := Lib.hid (hf.step HB.out)
  have HT := Lib.hid (hT.step HB.out)
  have HLQ := Lib.hid (rfl : light8 fs = light8 fs)
  obtain ⟨lp, HLP⟩ : ∃ b, Hid (b = light8 fs) := ⟨_, Lib.hid rfl⟩
  rw [← HLP.out] at HC
  have HAL := Lib.hid (fun (V : World) (h : Below W.heap.size W V) => alive08 V (HT.out.step h))
  obtain ⟨n, HN⟩ : ∃ n, Hid (n = fs.length) := ⟨_, Lib.hid rfl⟩
  rw [← HN.out] at HC HP HW ⊢
  clear hT hf HLQ
  have p0 : W.cell? ⟨w.heap.size, 0, none⟩ = some (.slice A n c) := HP.out.cell 0
  cases lp with
  | false =>
    clear hm
    go_enter Tryd.func3, Tryd.ntmps3
    go_upto_region 1 with (fail)
    rw [← HW.out]
    go_wp2_with (first | (go_at_call 7; refine HC.out.mono ?_; rintro e W1 ⟨rfl, hb1⟩; have HB1 := Lib.hid hb1; clear hb1) | (go_at_call 8; refine (HAL.out _ HB1.out).mono ?_; rintro e W2 ⟨rfl, hb2⟩; have HB2 := Lib.hid hb2; clear hb2))
    go_ret
    exact ⟨rfl, HB.out.trans ((HB1.out.trans (HB2.out.mono HB1.out.size)).mono HB.out.size)⟩
  | true =>
    by_cases h0 : fi < 0
    · clear hm
      go_enter Tryd.func3, Tryd.ntmps3
      go_upto_region 1 with (fail)
      rw [← HW.out]
      go_wp2_with (first | (go_at_call 7; refine HC.out.mono ?_; rintro e W1 ⟨rfl, hb1⟩; have HB1 := Lib.hid hb1; clear hb1) | (go_at_call 8; refine (HAL.out _ HB1.out).mono ?_; rintro e W2 ⟨rfl, hb2⟩; have HB2 := Lib.hid hb2; clear hb2))
      go_ret
      exact ⟨rfl, HB.out.trans ((HB1.out.trans (HB2.out.mono HB1.out.size)).mono HB.out.size)⟩
    · by_cases h1 : (n : Int) ≤ fi
      · clear hm
        go_enter Tryd.func3, Tryd.ntmps3
        go_upto_region 1 with (fail)
        rw [← HW.out]
        go_wp2_with (first | (go_at_call 7; refine HC.out.mono ?_; rintro e W1 ⟨rfl, hb1⟩; have HB1 := Lib.hid hb1; have p1 : W1.cell? ⟨w.heap.size, 0, none⟩ = some (.slice A n c) := (HP.out.below hb1 HP.out.lt).cell 0; clear hb1) | (go_at_call 8; refine (HAL.out _ HB1.out).mono ?_; rintro e W2 ⟨rfl, hb2⟩; have HB2 := Lib.hid hb2; clear hb2))
        go_ret
        exact ⟨rfl, HB.out.trans ((HB1.out.trans (HB2.out.mono HB1.out.size)).mono HB.out.size)⟩
      · obtain ⟨q, rfl⟩ : ∃ q : Nat, fi = q := ⟨fi.toNat, by omega⟩
        have hq : q < n := by omega
        have hqf : q < fs.length := by rw [← HN.out]; exact hq
        have HLO := Lib.hid ((light8_out HLP.out.symm).2 q hqf)
        have h2 : decide ((q : Int) < 0) = false := decide_eq_false (by omega)
        have h3 : decide ((n : Int) ≤ (q : Int)) = false := decide_eq_false (by omega)
        have h4 : decide (n ≤ q) = false := decide_eq_false (by omega)
        clear h0 h1 hm
        go_enter Tryd.func3, Tryd.ntmps3
        go_upto_region 1 with (fail)
        rw [← HW.out]
        go_upto_region 3 with (go_at_call 7; refine HC.out.mono ?_; rintro e W1 ⟨rfl, hb1⟩; have HB1 := Lib.hid hb1; have p1 : W1.cell? ⟨w.heap.size, 0, none⟩ = some (.slice A n c) := (HP.out.below hb1 HP.out.lt).cell 0; clear hb1)
        obtain ⟨b, off, a, eA, hbb, c0, c1, hfn⟩ := (HF.out.step HB1.out).at_ q hqf
        subst eA
        obtain ⟨C, fn, fc, S, sm, sd⟩ := a
        simp only at c0 c1
        have HFN := Lib.hid hfn
        clear hfn p0 HF HC
        obtain ⟨f, HFQ⟩ : ∃ f, Hid (f = fs[q]) := ⟨_, Lib.hid rfl⟩
        rw [← HFQ.out] at HFN HLO
        go_upto_region 4 with (fail)
        obtain ⟨W2, HW2⟩ : ∃ V, Hid (V = W1.alloc (.cells #[.slice C fn fc, .slice S sm sd] 30)) := ⟨_, Lib.hid rfl⟩
        obtain ⟨gb, HGB⟩ : ∃ g, Hid (g = W1.heap.size) := ⟨_, Lib.hid rfl⟩
        rw [← HW2.out, ← HGB.out]
        have HB2 := Lib.hid (show Below W1.heap.size W1 W2 by rw [HW2.out]; exact (Below.refl _ W1).alloc (Nat.le_refl _) _)
        have HQ2 := Lib.hid (show Blk W2 gb 30 #[.slice C fn fc, .slice S sm sd] by rw [HW2.out, HGB.out]; exact Blk.new W1 _ _)
        have HB12 := Lib.hid (HB1.out.trans (HB2.out.mono HB1.out.size))
        have HFN2 := Lib.hid (HFN.out.step HB2.out)
        have HFL := Lib.hid (show fn = f.code.length from HFN.out.1)
        have hfl : fn ≤ 64 := by rw [HFL.out]; exact HLO.out.1
        have HG1 := Lib.hid (gap_any (HT.out.step HB12.out) HFN2.out (by omega))
        obtain ⟨g1, HG1E⟩ : ∃ g, Hid (g = gapG fn (nxN f.code) (openB f.safe)) := ⟨_, Lib.hid rfl⟩
        rw [← HG1E.out] at HG1
        obtain ⟨gn, gi⟩ := g1
        unfold twoOf at HG1
        have q0 : W2.cell? ⟨gb, 0, none⟩ = some (.slice C fn fc) := (HQ2.out.cell 0).trans rfl
        have q1 : W2.cell? ⟨gb, 1, none⟩ = some (.slice S sm sd) := (HQ2.out.cell 1).trans rfl
        have hmk : ∀ w, (Instr.makeSlice 28 (.int .i64 (fn : Int)) (.int .i64 (fn : Int))).run Tryd.prog w = .ok (.slice (some ⟨w.heap.size, 0, none⟩) fn fn) (w.alloc (.cells (madeCells #[.bool false] fn) 4)) :=
          run_make_row' _ _ _ _ Tryd.underlying28 Tryd.infoB8 rfl _ _ fn (by omega) (by omega)
        clear c0 c1 p1 hbb HW HP h2 h3 h4 hq
        go_upto_region 8 with (go_at_call 9; refine HG1.out.mono ?_; rintro e W3 ⟨rfl, hb3⟩; have HB3 := Lib.hid hb3; have HQ3 := Lib.hid (HQ2.out.below hb3 HQ2.out.lt); have q30 : W3.cell? ⟨gb, 0, none⟩ = some (.slice C fn fc) := (HQ3.out.cell 0).trans rfl; have q31 : (W3.alloc (.cells (madeCells #[.bool false] fn) 4)).cell? ⟨gb, 0, none⟩ = some (.slice C fn fc) := ((HQ3.out.alloc _).cell 0).trans rfl; clear hb3)
        generalize hV : (W3.alloc _).alloc _ = V
        obtain ⟨b1, b2, hB⟩ := blk2 W3 _ _ _ _ V hV.symm
        rw [made_bool] at b1 b2
        have HB23 := Lib.hid (HB2.out.trans (HB3.out.mono HB2.out.size))
        have HB3V := Lib.hid hB
        have HQV := Lib.hid (HQ3.out.below hB HQ3.out.lt)
        have HFNV := Lib.hid ((HFN2.out.step HB3.out).step hB)
        have HBV := Lib.hid (HB12.out.trans ((HB3.out.trans (hB.mono HB3.out.size)).mono HB12.out.size))
        have HA := Lib.hid b1
        have HM := Lib.hid b2
        obtain ⟨ga, HGA⟩ : ∃ g, Hid (g = W3.heap.size) := ⟨_, Lib.hid rfl⟩
        obtain ⟨gm, HGM⟩ : ∃ g, Hid (g = W3.heap.size + 1) := ⟨_, Lib.hid rfl⟩
        rw [← HGA.out] at HA
        rw [← HGM.out] at HM
        rw [← HGM.out, ← HGA.out]
        have HNE := Lib.hid (show ga ≠ gm ∧ gb ≠ ga ∧ gb ≠ gm ∧ W3.heap.size ≤ ga ∧ W3.heap.size ≤ gm by have h := HQ3.out.lt; rw [HGA.out, HGM.out]; omega)
        clear hV b1 b2 hB q0 q1 q30 q31 hmk HG1
        go_loopw [12] (fun vi wr => ∃ (k : Nat) (la lm : List Bool), k ≤ fn ∧ vi = .int .i64 k ∧ Hid (Mv [ga, gm] V wr) ∧ Hid (Blk wr ga 4 (boolVals la).toArray) ∧ Hid (Blk wr gm 4 (boolVals lm).toArray) ∧ Hid (la.length = fn) ∧ Hid (lm.length = fn) ∧ Hid (∀ i, i < k → la.getD i false = true ∧ lm.getD i false = mvB pc f.safe i)) (fun vi _ => fn - (intOf vi).toNat)
        case atStart => exact ⟨0, _, _, by omega, rfl, Lib.hid (.refl _ _), HA, HM, Lib.hid (by simp), Lib.hid (by simp), Lib.hid (fun i hi => absurd hi (Nat.not_lt_zero _))⟩
        case round =>
          obtain ⟨k, la, lm, hk, rfl, K1, K2, K3, K4, K5, K6⟩ := hrel
          by_cases hlt : k < fn
          · have hka : k < la.length := by rw [K4.out]; exact hlt
            have hkm : k < lm.length := by rw [K5.out]; exact hlt
            obtain ⟨wq, HWQ⟩ : ∃ v, Hid (v = wr.setCell ⟨ga, k, none⟩ (.bool true)) := ⟨_, Lib.hid rfl⟩
            have HMQ := Lib.hid (show Mv [ga, gm] V wq by rw [HWQ.out]; exact K1.out.set _ _ (by simp))
            have HAQ := Lib.hid (show Blk wq ga 4 (boolVals (la.set k true)).toArray by rw [HWQ.out, ← bools_set]; exact K2.out.set_ k _)
            have HMQ2 := Lib.hid (show Blk wq gm 4 (boolVals lm).toArray by rw [HWQ.out]; exact K3.out.far (Ne.symm HNE.out.1) _)
            have HBQ := Lib.hid (show Below W1.heap.size W1 wq from (HB23.out.trans (HB3V.out.mono HB23.out.size)).trans (HMQ.out.low (Nat.le_trans HB23.out.size HB3V.out.size) (by intro x hx; have h1 := HNE.out; have h2 := HB23.out.size; simp at hx; omega)))
            have HEND := Lib.hid (fun (b : Bool) (hb : b = mvB pc f.safe k) => (show (∃ (k' : Nat) (la' lm' : List Bool), k' ≤ fn ∧ Value.int .i64 ((k : Int) + 1) = .int .i64 k' ∧ Hid (Mv [ga, gm] V (wq.setCell ⟨gm, k, none⟩ (.bool b))) ∧ Hid (Blk (wq.setCell ⟨gm, k, none⟩ (.bool b)) ga 4 (boolVals la').toArray) ∧ Hid (Blk (wq.setCell ⟨gm, k, none⟩ (.bool b)) gm 4 (boolVals lm').toArray) ∧ Hid (la'.length = fn) ∧ Hid (lm'.length = fn) ∧ Hid (∀ i, i < k' → la'.getD i false = true ∧ lm'.getD i false = mvB pc f.safe i)) from
              ⟨k + 1, la.set k true, lm.set k b, by omega, rfl, Lib.hid (HMQ.out.set _ _ (by simp)), Lib.hid (HAQ.out.far HNE.out.1 _), Lib.hid (by rw [← bools_set]; exact HMQ2.out.set_ k _), Lib.hid (by rw [List.length_set]; exact K4.out), Lib.hid (by rw [List.length_set]; exact K5.out), Lib.hid fun i hi => by
                rw [getB_set _ _ _ _ hka, getB_set _ _ _ _ hkm]
                by_cases e : k = i
                · rw [if_pos e, if_pos e, hb, e]; exact ⟨rfl, rfl⟩
                · rw [if_neg e, if_neg e]; exact K6.out i (by omega)⟩))
            have s0 : wr.frozen? ⟨ga, k, none⟩ = false := K2.out.frozen k
            have s1 : wr.cell? ⟨ga, k, none⟩ = some (.bool la[k]) := by rw [K2.out.cell]; simp [boolVals, hka]
            have s2 : (wr.setCell ⟨ga, k, none⟩ (.bool true)).frozen? ⟨gm, k, none⟩ = false := by rw [← HWQ.out]; exact HMQ2.out.frozen k
            have s3 : (wr.setCell ⟨ga, k, none⟩ (.bool true)).cell? ⟨gm, k, none⟩ = some (.bool lm[k]) := by rw [← HWQ.out, HMQ2.out.cell]; simp [boolVals, hkm]
            have s4 : (wr.setCell ⟨ga, k, none⟩ (.bool true)).cell? ⟨gb, 1, none⟩ = some (.slice S sm sd) := by
              rw [← HWQ.out]
              exact ((HMQ.out.blk HQV.out (by have h := HNE.out; simp; omega)).cell 1).trans rfl
            obtain ⟨y0, HY0⟩ : ∃ y, Hid (y = la[k]) := ⟨_, Lib.hid rfl⟩
            obtain ⟨y1, HY1⟩ : ∃ y, Hid (y = lm[k]) := ⟨_, Lib.hid rfl⟩
            rw [← HY0.out] at s1
            rw [← HY1.out] at s3
            have hms : intOf (.int .i64 (k : Int)) = k := rfl
            clear HY0 HY1 hka hkm
            by_cases hp : (k : Int) = pc
            · have HE := HEND.out true (by unfold mvB; rw [decide_eq_true hp]; rfl)
              have HE := Lib.hid HE
              have hp' : ((k : Int) == pc) = true := by rw [hp]; exact beq_self_eq_true pc
              clear hp HEND
              go_wp2_with fail
              rw [← HWQ.out]
              exact ⟨HE.out, by simp [intOf]; omega⟩
            · have hp' : ((k : Int) == pc) = false := beq_eq_false_iff_ne.2 hp
              by_cases hs : k < sm
              · have hsl : k < f.safe.length := by have h := HFN.out.2.1; simp only at h; omega
                obtain ⟨sb, soff, rfl, hsb, hsc⟩ := safe_cell ((HFN.out.below HBQ.out).2.2.2.1) k hsl
                obtain ⟨v, HV⟩ : ∃ v, Hid (v = f.safe.getD k false) := ⟨_, Lib.hid rfl⟩
                rw [← HV.out, HWQ.out] at hsc
                have HE := HEND.out v (by unfold mvB; rw [decide_eq_false hp, HV.out]; rfl)
                have HE := Lib.hid HE
                clear hp HEND hsl
                cases v with
                | true =>
                  go_wp2_with fail
                  rw [← HWQ.out]
                  exact ⟨HE.out, by simp [intOf]; omega⟩
                | false =>
                  go_wp2_with fail
                  rw [← HWQ.out]
                  exact ⟨HE.out, by simp [intOf]; omega⟩
              · have HE := HEND.out false (by unfold mvB; rw [decide_eq_false hp, getB_big (by have h := HFN.out.2.1; simp only at h; omega)]; rfl)
                have HE := Lib.hid HE
                clear hp HEND
                go_wp2_with fail
                rw [← HWQ.out]
                exact ⟨HE.out, by simp [intOf]; omega⟩
          · obtain rfl : k = fn := by omega
            have hBr : Below W1.heap.size W1 wr := (HB23.out.trans (HB3V.out.mono HB23.out.size)).trans (K1.out.low (Nat.le_trans HB23.out.size HB3V.out.size) (by intro x hx; have h1 := HNE.out; have h2 := HB23.out.size; simp at hx; omega))
            have hfr := (HFN.out.below hBr).more hBr.size
            have HBR := Lib.hid (HB1.out.trans (hBr.mono HB1.out.size))
            have hga := gap_any (HT.out.step HBR.out) (fn_more hfr K2.out K2.out.lt K4.out) (show k ≤ 70 by omega)
            have hgz : gapG k (nxN f.code) (openB la) = (0, true) := gap_none' fun x hx => by unfold openB; rw [(K6.out x hx).1]; simp
            simp only [hgz] at hga
            have HGA2 := Lib.hid hga
            have HQR := Lib.hid (K1.out.blk HQV.out (by have h := HNE.out; simp; omega))
            have r0 : wr.cell? ⟨gb, 0, none⟩ = some (.slice C k fc) := (HQR.out.cell 0).trans rfl
            have HFR := Lib.hid hfr
            clear hga hgz hfr hBr
            unfold twoOf at HGA2
            go_upto_region 13 with (go_at_call 9; refine HGA2.out.mono ?_; rintro e Wa ⟨rfl, hba⟩; have HBA := Lib.hid hba; have t0 : Wa.cell? ⟨gb, 0, none⟩ = some (.slice C k fc) := ((HQR.out.below hba HQR.out.lt).cell 0).trans rfl; clear hba)
            have HBR2 := Lib.hid (HBR.out.trans (HBA.out.mono HBR.out.size))
            have hgm := gap_any (HT.out.step HBR2.out) (fn_more (HFR.out.step HBA.out) (K3.out.below HBA.out K3.out.lt) (K3.out.below HBA.out K3.out.lt).lt K5.out) (show k ≤ 70 by omega)
            have hgg : gi = true → (gapG k (nxN f.code) (openB lm)).2 = true ∧ (gapG k (nxN f.code) (openB lm)).1 ≤ gn := fun h => by
              have h1 := gap_mono' (n := k) (nx := nxN f.code) (op := openB f.safe) (op' := openB lm) (fun x y hy => by rw [HFL.out]; exact nx_lt hy) (fun x hx ho => by
                unfold openB at ho ⊢
                rw [(K6.out x hx).2] at ho
                unfold mvB at ho
                cases hf : f.safe.getD x false with
                | false => rw [hf] at ho; simp at ho; simp [ho.1]
                | true => rw [hf] at ho; simp at ho) (by rw [← HG1E.out]; exact h)
              rw [← HG1E.out] at h1
              exact h1
            obtain ⟨g2, HG2E⟩ : ∃ g, Hid (g = gapG k (nxN f.code) (openB lm)) := ⟨_, Lib.hid rfl⟩
            rw [← HG2E.out] at hgg
            simp only [← HG2E.out] at hgm
            obtain ⟨mn, mi⟩ := g2
            have HGM2 := Lib.hid hgm
            clear hgm r0
            unfold twoOf at HGM2
            cases gi with
            | false =>
              clear hgg
              go_wp2_with (first | (go_at_call 9; refine HGM2.out.mono ?_; rintro e Wb ⟨rfl, hbb⟩; have HBB := Lib.hid hbb; clear hbb) | (go_at_call 8; refine (HAL.out _ (HBR2.out.trans (HBB.out.mono HBR2.out.size))).mono ?_; rintro e Wc ⟨rfl, hbc⟩; have HBC := Lib.hid hbc; clear hbc))
              go_ret
              have h5 := HBR2.out.trans (HBB.out.mono HBR2.out.size)
              exact ⟨rfl, HB.out.trans ((h5.trans (HBC.out.mono h5.size)).mono HB.out.size)⟩
            | true =>
              obtain ⟨rfl, hle⟩ := hgg rfl
              have hle' : decide (mn ≤ gn) = true := decide_eq_true hle
              go_wp2_with (first | (go_at_call 9; refine HGM2.out.mono ?_; rintro e Wb ⟨rfl, hbb⟩; have HBB := Lib.hid hbb; clear hbb) | (go_at_call 8; refine (HAL.out _ (HBR2.out.trans (HBB.out.mono HBR2.out.size))).mono ?_; rintro e Wc ⟨rfl, hbc⟩; have HBC := Lib.hid hbc; clear hbc))
              go_ret
              have h5 := HBR2.out.trans (HBB.out.mono HBR2.out.size)
              exact ⟨rfl, HB.out.trans ((h5.trans (HBC.out.mono h5.size)).mono HB.out.size)⟩
end Go.Proofs.YtdpacdmaadodiaaDoor

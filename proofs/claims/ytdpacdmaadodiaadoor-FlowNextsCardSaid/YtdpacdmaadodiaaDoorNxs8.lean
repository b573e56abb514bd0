/-
  Chapter 8: the law FlowNexts returns true, whatever is handed in. Condition: the table isa.rows.
-/
import Derived.Test.YtdpacdmaadodiaaDoorRre8
import Derived.Test.YtdpacdmaadodiaaDoorRfl8
import Derived.Test.YtdpacdmaadodiaaDoorAlv8
namespace Go.Proofs.YtdpacdmaadodiaaDoor
open Go.RowKit
set_option maxRecDepth 10000 in
set_option maxHeartbeats 8000000 in
theorem nexts08 (A : Option Addr) (c : Nat) (fs : List Fn) (fi pc : Int) (w : World) (hT : Tab w) (hm : fs.length ≤ maxLen) (hf : FnsOk w w.heap.size A fs) :
    Calls Tryd.prog 6 #[.agg #[.slice A fs.length c], .int .i64 fi, .int .i64 pc] w fun e w' => e = .returned (.bool true) ∧ Below w.heap.size w w' := by
  obtain ⟨W, HW⟩ : ∃ W, Hid (W = w.alloc (.cells #[.slice A fs.length c] 24)) := ⟨_, Lib.hid rfl⟩
  have HB := Lib.hid (show Below w.heap.size w W by rw [HW.out]; exact (Below.refl _ _).alloc (Nat.le_refl _) _)
  obtain ⟨pb, HPB⟩ : ∃ q, Hid (q = w.heap.size) := ⟨_, Lib.hid rfl⟩
  have HP := Lib.hid (show Blk W pb 24 #[.slice A fs.length c] by rw [HW.out, HPB.out]; exact Blk.new w _ _)
  have HC := Lib.hid (light8_any A c fs W hm (hf.step HB.out))
  have HF := Lib.hid (hf.step HB.out)
  have HT := Lib.hid (hT.step HB.out)
  obtain ⟨lp, HLP⟩ : ∃ b, Hid (b = light8 fs) := ⟨_, Lib.hid rfl⟩
  rw [← HLP.out] at HC
  have HAL := Lib.hid (fun (V : World) (h : Below W.heap.size W V) => alive08 V (HT.out.step h))
  obtain ⟨n, HN⟩ : ∃ n, Hid (n = fs.length) := ⟨_, Lib.hid rfl⟩
  rw [← HN.out] at HC HP HW ⊢
  clear hT hf hm
  have p0 : W.cell? ⟨pb, 0, none⟩ = some (.slice A n c) := HP.out.cell 0
  have hpb := HPB.out
  cases lp with
  | false =>
    go_enter Tryd.func6, Tryd.ntmps6
    go_upto_region 1 with (fail)
    rw [← HW.out, ← hpb]
    clear hpb
    go_wp2_with (first | (go_at_call 7; refine HC.out.mono ?_; rintro e W1 ⟨rfl, hb1⟩; have HB1 := Lib.hid hb1; clear hb1) | (go_at_call 8; refine (HAL.out _ HB1.out).mono ?_; rintro e W2 ⟨rfl, hb2⟩; have HB2 := Lib.hid hb2; clear hb2))
    go_ret
    exact ⟨rfl, HB.out.trans ((HB1.out.trans (HB2.out.mono HB1.out.size)).mono HB.out.size)⟩
  | true =>
    have HLL := Lib.hid (fun f (hf : f ∈ fs) => (show f.code.length ≤ 64 by obtain ⟨i, hi, rfl⟩ := List.getElem_of_mem hf; exact ((light8_out HLP.out.symm).2 i hi).1))
    have H16 := Lib.hid (light8_out HLP.out.symm).1
    by_cases hin : 0 ≤ fi ∧ fi < n
    · obtain ⟨q, rfl⟩ : ∃ q : Nat, fi = q := ⟨fi.toNat, by omega⟩
      have hq : q < n := by omega
      have hqf : q < fs.length := by rw [← HN.out]; exact hq
      have h3 : decide (q < n) = true := decide_eq_true hq
      clear hin
      go_enter Tryd.func6, Tryd.ntmps6
      go_upto_region 1 with (fail)
      rw [← HW.out, ← hpb]
      clear hpb
      go_upto_region 4 with (go_at_call 7; refine HC.out.mono ?_; rintro e W1 ⟨rfl, hb1⟩; have HB1 := Lib.hid hb1; have p1 : W1.cell? ⟨pb, 0, none⟩ = some (.slice A n c) := (HP.out.below hb1 HP.out.lt).cell 0; clear hb1)
      obtain ⟨b, off, a, eA, hbb, c0, c1, hfn⟩ := (HF.out.step HB1.out).at_ q hqf
      subst eA
      obtain ⟨C, fn, fc, S, sm, sd⟩ := a
      simp only at c0 c1
      have HFN := Lib.hid hfn
      clear hfn p0 HC
      obtain ⟨f, HFQ⟩ : ∃ f, Hid (f = fs[q]) := ⟨_, Lib.hid rfl⟩
      rw [← HFQ.out] at HFN
      have hfl : fn ≤ 70 := by have h1 := HLL.out f (by rw [HFQ.out]; exact List.getElem_mem _); have h2 : fn = f.code.length := HFN.out.1; omega
      go_upto_region 5 with (fail)
      obtain ⟨W2, HW2⟩ : ∃ V, Hid (V = W1.alloc (.cells #[.slice C fn fc, .slice S sm sd] 30)) := ⟨_, Lib.hid rfl⟩
      obtain ⟨gb, HGB⟩ : ∃ g, Hid (g = W1.heap.size) := ⟨_, Lib.hid rfl⟩
      rw [← HW2.out, ← HGB.out]
      have HB2 := Lib.hid (show Below W1.heap.size W1 W2 by rw [HW2.out]; exact (Below.refl _ W1).alloc (Nat.le_refl _) _)
      have HQ2 := Lib.hid (show Blk W2 gb 30 #[.slice C fn fc, .slice S sm sd] by rw [HW2.out, HGB.out]; exact Blk.new W1 _ _)
      have HB12 := Lib.hid (HB1.out.trans (HB2.out.mono HB1.out.size))
      have HFN2 := Lib.hid (HFN.out.step HB2.out)
      have HT2 := Lib.hid (HT.out.step HB12.out)
      have L0 : ∀ V, Below W2.heap.size W2 V → V.cell? ⟨gb, 0, none⟩ = some (.slice C fn fc) := fun V h => ((HQ2.out.below h HQ2.out.lt).cell 0).trans rfl
      have L1 : ∀ V, Below W2.heap.size W2 V → V.cell? ⟨gb, 1, none⟩ = some (.slice S sm sd) := fun V h => ((HQ2.out.below h HQ2.out.lt).cell 1).trans rfl
      have HNX := Lib.hid (fun (V : World) (h : Below W2.heap.size W2 V) => next_any (HT2.out.step h) (HFN2.out.step h) hfl pc)
      have HRN := Lib.hid (fun (V : World) (h : Below W2.heap.size W2 V) => rnext_any (HFN2.out.step h) hfl pc)
      have HRE := Lib.hid (fun (V : World) (h : Below W2.heap.size W2 V) => reach_any (HT2.out.step h) (HFN2.out.step h) hfl)
      have HRR := Lib.hid (fun (V : World) (h : Below W2.heap.size W2 V) => rreach_any (HFN2.out.step h) hfl)
      obtain ⟨l, HL⟩ : ∃ l, Hid (l = nxZ f.code pc) := ⟨_, Lib.hid rfl⟩
      simp only [← HL.out] at HNX HRN
      clear c0 c1 p1 hbb h3 hq
      refine region_sch (fun w' => Below W2.heap.size W2 w') [([0, 1, 3, 4], 2), ([], 5), ([], 6), ([7, 8, 9, 11], 10), ([], 12), ([], 13)] [14, 15] (by kernel_rfl) (by kernel_rfl) (by kernel_rfl) (fun _ _ d _ _ h => by cases d <;> exact h) (Below.refl _ _).drew ?_
      (try simp only [Act.put, List.setIfInBounds_toArray, List.set_cons_zero, List.set_cons_succ]); refine sch_seg ?_; simp only [pickOps, List.getElem?_toArray, List.getElem?_cons_zero, List.getElem?_cons_succ]; (repeat (first | go_big_quiet_skip | (go_big_quiet_want; first | (go_big_quiet_op; first | go_big_quiet_on | ((first | with_reducible refine ⟨_, fun _ _ => rfl, ?_⟩); go_big_quiet_on)) | (simp (contextual := true) [go_sem, L0, L1]; with_reducible refine ⟨_, fun _ _ => rfl, ?_⟩; go_big_quiet_on)))); refine wpQuiet_nil ?_
      have HD2 := Lib.hid (show Below W2.heap.size W2 W2.drew from (Below.refl _ _).drew)
      go_wp2_with fail
      refine (HNX.out W2.drew HD2.out).mono ?_
      rintro e V1 ⟨LA, lc, rfl, ho, hb⟩
      have HO1 := Lib.hid ho
      have HV1 := Lib.hid (HD2.out.trans (hb.mono HD2.out.size))
      clear ho hb
      go_wp2_with fail
      refine ⟨_, HV1.out, fun _ h => h, ?_⟩
      (try simp only [Act.put, List.setIfInBounds_toArray, List.set_cons_zero, List.set_cons_succ]); refine sch_seg ?_; simp only [pickOps, List.getElem?_toArray, List.getElem?_cons_zero, List.getElem?_cons_succ]; (repeat (first | go_big_quiet_skip | (go_big_quiet_want; first | (go_big_quiet_op; first | go_big_quiet_on | ((first | with_reducible refine ⟨_, fun _ _ => rfl, ?_⟩); go_big_quiet_on)) | (simp (contextual := true) [go_sem, L0, L1]; with_reducible refine ⟨_, fun _ _ => rfl, ?_⟩; go_big_quiet_on)))); refine wpQuiet_nil ?_
      go_wp2_with fail
      refine (HRN.out V1 HV1.out).mono ?_
      rintro e V2 ⟨RA, rc, rfl, ho, hb⟩
      have HO2 := Lib.hid ho
      have HO1b := Lib.hid (own_low HO1.out hb)
      have HV2 := Lib.hid (HV1.out.trans (hb.mono HV1.out.size))
      clear ho hb
      go_wp2_with fail
      refine ⟨_, HV2.out, fun _ h => h, ?_⟩
      (try simp only [Act.put, List.setIfInBounds_toArray, List.set_cons_zero, List.set_cons_succ]); refine sch_seg ?_; simp only [pickOps, List.getElem?_toArray, List.getElem?_cons_zero, List.getElem?_cons_succ]; (repeat (first | go_big_quiet_skip | (go_big_quiet_want; first | (go_big_quiet_op; first | go_big_quiet_on | ((first | with_reducible refine ⟨_, fun _ _ => rfl, ?_⟩); go_big_quiet_on)) | (simp (contextual := true) [go_sem, L0, L1]; with_reducible refine ⟨_, fun _ _ => rfl, ?_⟩; go_big_quiet_on)))); refine wpQuiet_nil ?_
      go_wp2_with fail
      refine (same_any _ _ _ _ _ _ (upI l) (upI l) _ (by simp [upI]) (by simp [upI]) (own_few HO1b.out) (own_few HO2.out) HO1b.out.row HO2.out.row).mono ?_
      rintro e V3 ⟨rfl, hb⟩
      rw [decide_eq_true (rfl : upI l = upI l)]
      have HV3 := Lib.hid (HV2.out.trans (hb.mono HV2.out.size))
      clear hb
      go_wp2_with fail
      refine ⟨_, HV3.out, fun _ h => h, ?_⟩
      (try simp only [Act.put, List.setIfInBounds_toArray, List.set_cons_zero, List.set_cons_succ]); refine sch_seg ?_; simp only [pickOps, List.getElem?_toArray, List.getElem?_cons_zero, List.getElem?_cons_succ]; (repeat (first | go_big_quiet_skip | (go_big_quiet_want; first | (go_big_quiet_op; first | go_big_quiet_on | ((first | with_reducible refine ⟨_, fun _ _ => rfl, ?_⟩); go_big_quiet_on)) | (simp (contextual := true) [go_sem, L0, L1]; with_reducible refine ⟨_, fun _ _ => rfl, ?_⟩; go_big_quiet_on)))); refine wpQuiet_nil ?_
      go_wp2_with fail
      refine (HRE.out V3 HV3.out).mono ?_
      rintro e V4 ⟨ka, va, rfl, h1, h2, h3, hb⟩
      have HK4 := Lib.hid h1
      have HI4 := Lib.hid h3
      have HV4 := Lib.hid (HV3.out.trans (hb.mono HV3.out.size))
      clear h1 h2 h3 hb
      go_wp2_with fail
      refine ⟨_, HV4.out, fun _ h => h, ?_⟩
      (try simp only [Act.put, List.setIfInBounds_toArray, List.set_cons_zero, List.set_cons_succ]); refine sch_seg ?_; simp only [pickOps, List.getElem?_toArray, List.getElem?_cons_zero, List.getElem?_cons_succ]; (repeat (first | go_big_quiet_skip | (go_big_quiet_want; first | (go_big_quiet_op; first | go_big_quiet_on | ((first | with_reducible refine ⟨_, fun _ _ => rfl, ?_⟩); go_big_quiet_on)) | (simp (contextual := true) [go_sem, L0, L1]; with_reducible refine ⟨_, fun _ _ => rfl, ?_⟩; go_big_quiet_on)))); refine wpQuiet_nil ?_
      go_wp2_with fail
      refine (HRR.out V4 HV4.out).mono ?_
      rintro e V5 ⟨kb, vb, rfl, h1, h2, h3, hb⟩
      have HK5 := Lib.hid h1
      have HI5 := Lib.hid h3
      have HK4b := Lib.hid (HK4.out.below hb HK4.out.lt)
      have HV5 := Lib.hid (HV4.out.trans (hb.mono HV4.out.size))
      clear h1 h2 h3 hb
      go_wp2_with fail
      refine ⟨_, HV5.out, fun _ h => h, ?_⟩
      (try simp only [Act.put, List.setIfInBounds_toArray, List.set_cons_zero, List.set_cons_succ]); refine sch_seg ?_; simp only [pickOps, List.getElem?_toArray, List.getElem?_cons_zero, List.getElem?_cons_succ]; (repeat (first | go_big_quiet_skip | (go_big_quiet_want; first | (go_big_quiet_op; first | go_big_quiet_on | ((first | with_reducible refine ⟨_, fun _ _ => rfl, ?_⟩); go_big_quiet_on)) | (simp (contextual := true) [go_sem, L0, L1]; with_reducible refine ⟨_, fun _ _ => rfl, ?_⟩; go_big_quiet_on)))); refine wpQuiet_nil ?_
      go_wp2_with fail
      refine (truths_any _ _ _ _ _ _ va vb _ HI4.out.1 HI5.out.1 (by unfold maxLen; omega) (by unfold maxLen; omega) (row_of_blk HK4b.out HK4b.out.lt) (row_of_blk HK5.out HK5.out.lt)).mono ?_
      rintro e V6 ⟨rfl, hb⟩
      rw [decide_eq_true (HI4.out.uniq HI5.out)]
      have HV6 := Lib.hid (HV5.out.trans (hb.mono HV5.out.size))
      clear hb
      go_wp2_with fail
      refine ⟨_, HV6.out, fun _ h => h, ?_⟩
      (try simp only [Act.put, List.setIfInBounds_toArray, List.set_cons_zero, List.set_cons_succ]); refine sch_end ?_; simp only [pickOps, List.getElem?_toArray, List.getElem?_cons_zero, List.getElem?_cons_succ]; (repeat (first | go_big_quiet_skip | (go_big_quiet_want; first | (go_big_quiet_op; first | go_big_quiet_on | ((first | with_reducible refine ⟨_, fun _ _ => rfl, ?_⟩); go_big_quiet_on)) | (simp (contextual := true) [go_sem, L0, L1]; with_reducible refine ⟨_, fun _ _ => rfl, ?_⟩; go_big_quiet_on)))); refine wpQuiet_nil ?_
      clear L0 L1
      have HU := Lib.hid (HB12.out.trans (HV6.out.mono HB12.out.size))
      obtain ⟨U, HUE⟩ : ∃ U, Hid (U = V6) := ⟨_, Lib.hid rfl⟩
      rw [← HUE.out] at HU ⊢
      go_upto_region 7 with (fail)

      have M0 : ∀ V, Below U.heap.size U V → V.cell? ⟨pb, 0, none⟩ = some (.slice (some ⟨b, off, none⟩) n c) := fun V h => ((HP.out.below (HU.out.trans (h.mono HU.out.size)) HP.out.lt).cell 0).trans rfl
      have HCA := Lib.hid (fun (V : World) (h : Below U.heap.size U V) => calls_any (c := c) (HT.out.step (HU.out.trans (h.mono HU.out.size))) (HF.out.step (HU.out.trans (h.mono HU.out.size))) HLL.out (q : Int))
      have HRC := Lib.hid (fun (V : World) (h : Below U.heap.size U V) => rcalls_any (c := c) (HF.out.step (HU.out.trans (h.mono HU.out.size))) HLL.out (q : Int))
      have HUS := Lib.hid (fun (V : World) (h : Below U.heap.size U V) => used_any (c := c) (HT.out.step (HU.out.trans (h.mono HU.out.size))) (HF.out.step (HU.out.trans (h.mono HU.out.size))) HLL.out H16.out)
      have HRU := Lib.hid (fun (V : World) (h : Below U.heap.size U V) => rused_any (c := c) (HF.out.step (HU.out.trans (h.mono HU.out.size))) HLL.out H16.out)
      rw [← HN.out] at HCA HRC HUS HRU H16
      have h16 := H16.out
      obtain ⟨g, HG⟩ : ∃ g, Hid (g = clZ fs (q : Int)) := ⟨_, Lib.hid rfl⟩
      simp only [← HG.out] at HCA HRC
      refine region_sch (fun w' => Below U.heap.size U w') [([0, 1, 3, 4], 2), ([], 5), ([], 6), ([7, 8, 10], 9), ([], 11), ([], 12), ([13, 14], 15)] [16, 17] (by kernel_rfl) (by kernel_rfl) (by kernel_rfl) (fun _ _ d _ _ h => by cases d <;> exact h) (Below.refl _ _).drew ?_
      (try simp only [Act.put, List.setIfInBounds_toArray, List.set_cons_zero, List.set_cons_succ]); refine sch_seg ?_; simp only [pickOps, List.getElem?_toArray, List.getElem?_cons_zero, List.getElem?_cons_succ]; (repeat (first | go_big_quiet_skip | (go_big_quiet_want; first | (go_big_quiet_op; first | go_big_quiet_on | ((first | with_reducible refine ⟨_, fun _ _ => rfl, ?_⟩); go_big_quiet_on)) | (simp (contextual := true) [go_sem, M0]; with_reducible refine ⟨_, fun _ _ => rfl, ?_⟩; go_big_quiet_on)))); refine wpQuiet_nil ?_
      have HE2 := Lib.hid (show Below U.heap.size U U.drew from (Below.refl _ _).drew)
      go_wp2_with fail
      refine (HCA.out U.drew HE2.out).mono ?_
      rintro e U1 ⟨LB, ld, rfl, ho, hb⟩
      have HP1 := Lib.hid ho
      have HU1 := Lib.hid (HE2.out.trans (hb.mono HE2.out.size))
      clear ho hb
      go_wp2_with fail
      refine ⟨_, HU1.out, fun _ h => h, ?_⟩
      (try simp only [Act.put, List.setIfInBounds_toArray, List.set_cons_zero, List.set_cons_succ]); refine sch_seg ?_; simp only [pickOps, List.getElem?_toArray, List.getElem?_cons_zero, List.getElem?_cons_succ]; (repeat (first | go_big_quiet_skip | (go_big_quiet_want; first | (go_big_quiet_op; first | go_big_quiet_on | ((first | with_reducible refine ⟨_, fun _ _ => rfl, ?_⟩); go_big_quiet_on)) | (simp (contextual := true) [go_sem, M0]; with_reducible refine ⟨_, fun _ _ => rfl, ?_⟩; go_big_quiet_on)))); refine wpQuiet_nil ?_
      go_wp2_with fail
      refine (HRC.out U1 HU1.out).mono ?_
      rintro e U2 ⟨RB, rd, rfl, ho, hb⟩
      have HP2 := Lib.hid ho
      have HP1b := Lib.hid (own_low HP1.out hb)
      have HU2 := Lib.hid (HU1.out.trans (hb.mono HU1.out.size))
      clear ho hb
      go_wp2_with fail
      refine ⟨_, HU2.out, fun _ h => h, ?_⟩
      (try simp only [Act.put, List.setIfInBounds_toArray, List.set_cons_zero, List.set_cons_succ]); refine sch_seg ?_; simp only [pickOps, List.getElem?_toArray, List.getElem?_cons_zero, List.getElem?_cons_succ]; (repeat (first | go_big_quiet_skip | (go_big_quiet_want; first | (go_big_quiet_op; first | go_big_quiet_on | ((first | with_reducible refine ⟨_, fun _ _ => rfl, ?_⟩); go_big_quiet_on)) | (simp (contextual := true) [go_sem, M0]; with_reducible refine ⟨_, fun _ _ => rfl, ?_⟩; go_big_quiet_on)))); refine wpQuiet_nil ?_
      go_wp2_with fail
      refine (same_any _ _ _ _ _ _ (upI g) (upI g) _ (by simp [upI]) (by simp [upI]) (own_few HP1b.out) (own_few HP2.out) HP1b.out.row HP2.out.row).mono ?_
      rintro e U3 ⟨rfl, hb⟩
      rw [decide_eq_true (rfl : upI g = upI g)]
      have HU3 := Lib.hid (HU2.out.trans (hb.mono HU2.out.size))
      clear hb
      go_wp2_with fail
      refine ⟨_, HU3.out, fun _ h => h, ?_⟩
      (try simp only [Act.put, List.setIfInBounds_toArray, List.set_cons_zero, List.set_cons_succ]); refine sch_seg ?_; simp only [pickOps, List.getElem?_toArray, List.getElem?_cons_zero, List.getElem?_cons_succ]; (repeat (first | go_big_quiet_skip | (go_big_quiet_want; first | (go_big_quiet_op; first | go_big_quiet_on | ((first | with_reducible refine ⟨_, fun _ _ => rfl, ?_⟩); go_big_quiet_on)) | (simp (contextual := true) [go_sem, M0]; with_reducible refine ⟨_, fun _ _ => rfl, ?_⟩; go_big_quiet_on)))); refine wpQuiet_nil ?_
      go_wp2_with fail
      refine (HUS.out U3 HU3.out).mono ?_
      rintro e U4 ⟨kc, vc, rfl, h1, h2, h3, hb⟩
      have HS4 := Lib.hid h1
      have HJ4 := Lib.hid h3
      have HU4 := Lib.hid (HU3.out.trans (hb.mono HU3.out.size))
      clear h1 h2 h3 hb
      go_wp2_with fail
      refine ⟨_, HU4.out, fun _ h => h, ?_⟩
      (try simp only [Act.put, List.setIfInBounds_toArray, List.set_cons_zero, List.set_cons_succ]); refine sch_seg ?_; simp only [pickOps, List.getElem?_toArray, List.getElem?_cons_zero, List.getElem?_cons_succ]; (repeat (first | go_big_quiet_skip | (go_big_quiet_want; first | (go_big_quiet_op; first | go_big_quiet_on | ((first | with_reducible refine ⟨_, fun _ _ => rfl, ?_⟩); go_big_quiet_on)) | (simp (contextual := true) [go_sem, M0]; with_reducible refine ⟨_, fun _ _ => rfl, ?_⟩; go_big_quiet_on)))); refine wpQuiet_nil ?_
      go_wp2_with fail
      refine (HRU.out U4 HU4.out).mono ?_
      rintro e U5 ⟨kd, vd, rfl, h1, h2, h3, hb⟩
      have HS5 := Lib.hid h1
      have HJ5 := Lib.hid h3
      have HS4b := Lib.hid (HS4.out.below hb HS4.out.lt)
      have HU5 := Lib.hid (HU4.out.trans (hb.mono HU4.out.size))
      clear h1 h2 h3 hb
      go_wp2_with fail
      refine ⟨_, HU5.out, fun _ h => h, ?_⟩
      (try simp only [Act.put, List.setIfInBounds_toArray, List.set_cons_zero, List.set_cons_succ]); refine sch_seg ?_; simp only [pickOps, List.getElem?_toArray, List.getElem?_cons_zero, List.getElem?_cons_succ]; (repeat (first | go_big_quiet_skip | (go_big_quiet_want; first | (go_big_quiet_op; first | go_big_quiet_on | ((first | with_reducible refine ⟨_, fun _ _ => rfl, ?_⟩); go_big_quiet_on)) | (simp (contextual := true) [go_sem, M0]; with_reducible refine ⟨_, fun _ _ => rfl, ?_⟩; go_big_quiet_on)))); refine wpQuiet_nil ?_
      go_wp2_with fail
      refine (truths_any _ _ _ _ _ _ vc vd _ HJ4.out.1 HJ5.out.1 (by unfold maxLen; omega) (by unfold maxLen; omega) (row_of_blk HS4b.out HS4b.out.lt) (row_of_blk HS5.out HS5.out.lt)).mono ?_
      rintro e U6 ⟨rfl, hb⟩
      rw [decide_eq_true (HJ4.out.uniq HJ5.out)]
      have HU6 := Lib.hid (HU5.out.trans (hb.mono HU5.out.size))
      clear hb
      go_wp2_with fail
      refine ⟨_, HU6.out, fun _ h => h, ?_⟩
      (try simp only [Act.put, List.setIfInBounds_toArray, List.set_cons_zero, List.set_cons_succ]); refine sch_seg ?_; simp only [pickOps, List.getElem?_toArray, List.getElem?_cons_zero, List.getElem?_cons_succ]; (repeat (first | go_big_quiet_skip | (go_big_quiet_want; first | (go_big_quiet_op; first | go_big_quiet_on | ((first | with_reducible refine ⟨_, fun _ _ => rfl, ?_⟩); go_big_quiet_on)) | (simp (contextual := true) [go_sem, M0]; with_reducible refine ⟨_, fun _ _ => rfl, ?_⟩; go_big_quiet_on)))); refine wpQuiet_nil ?_
      go_wp2_with fail
      refine (HAL.out U6 (HU.out.trans (HU6.out.mono HU.out.size))).mono ?_
      rintro e U7 ⟨rfl, hb⟩
      have HU7 := Lib.hid (HU6.out.trans (hb.mono HU6.out.size))
      clear hb
      go_wp2_with fail
      refine ⟨_, HU7.out, fun _ h => h, ?_⟩
      (try simp only [Act.put, List.setIfInBounds_toArray, List.set_cons_zero, List.set_cons_succ]); refine sch_end ?_; simp only [pickOps, List.getElem?_toArray, List.getElem?_cons_zero, List.getElem?_cons_succ]; (repeat (first | go_big_quiet_skip | (go_big_quiet_want; first | (go_big_quiet_op; first | go_big_quiet_on | ((first | with_reducible refine ⟨_, fun _ _ => rfl, ?_⟩); go_big_quiet_on)) | (simp (contextual := true) [go_sem, M0]; with_reducible refine ⟨_, fun _ _ => rfl, ?_⟩; go_big_quiet_on)))); refine wpQuiet_nil ?_
      go_wp2_with fail
      go_ret
      exact ⟨rfl, HB.out.trans ((HU.out.trans (HU7.out.mono HU.out.size)).mono HB.out.size)⟩

    · have h3 : decide (0 ≤ fi) = decide (0 ≤ fi) := rfl
      clear h3
      by_cases h0 : 0 ≤ fi
      · have h1 : decide (fi < (n : Int)) = false := decide_eq_false (by omega)
        have h0' : decide (0 ≤ fi) = true := decide_eq_true h0
        clear hin
        go_enter Tryd.func6, Tryd.ntmps6
        go_upto_region 1 with (fail)
        rw [← HW.out, ← hpb]
        clear hpb
        go_upto_region 7 with (go_at_call 7; refine HC.out.mono ?_; rintro e W1 ⟨rfl, hb1⟩; have HU := Lib.hid hb1; have p1 : W1.cell? ⟨pb, 0, none⟩ = some (.slice A n c) := (HP.out.below hb1 HP.out.lt).cell 0; clear hb1)
        obtain ⟨U, HUE⟩ : ∃ U, Hid (U = W1) := ⟨_, Lib.hid rfl⟩
        rw [← HUE.out] at HU ⊢
        have M0 : ∀ V, Below U.heap.size U V → V.cell? ⟨pb, 0, none⟩ = some (.slice A n c) := fun V h => ((HP.out.below (HU.out.trans (h.mono HU.out.size)) HP.out.lt).cell 0).trans rfl
        have HCA := Lib.hid (fun (V : World) (h : Below U.heap.size U V) => calls_any (c := c) (HT.out.step (HU.out.trans (h.mono HU.out.size))) (HF.out.step (HU.out.trans (h.mono HU.out.size))) HLL.out fi)
        have HRC := Lib.hid (fun (V : World) (h : Below U.heap.size U V) => rcalls_any (c := c) (HF.out.step (HU.out.trans (h.mono HU.out.size))) HLL.out fi)
        have HUS := Lib.hid (fun (V : World) (h : Below U.heap.size U V) => used_any (c := c) (HT.out.step (HU.out.trans (h.mono HU.out.size))) (HF.out.step (HU.out.trans (h.mono HU.out.size))) HLL.out H16.out)
        have HRU := Lib.hid (fun (V : World) (h : Below U.heap.size U V) => rused_any (c := c) (HF.out.step (HU.out.trans (h.mono HU.out.size))) HLL.out H16.out)
        rw [← HN.out] at HCA HRC HUS HRU H16
        have h16 := H16.out
        obtain ⟨g, HG⟩ : ∃ g, Hid (g = clZ fs fi) := ⟨_, Lib.hid rfl⟩
        simp only [← HG.out] at HCA HRC
        refine region_sch (fun w' => Below U.heap.size U w') [([0, 1, 3, 4], 2), ([], 5), ([], 6), ([7, 8, 10], 9), ([], 11), ([], 12), ([13, 14], 15)] [16, 17] (by kernel_rfl) (by kernel_rfl) (by kernel_rfl) (fun _ _ d _ _ h => by cases d <;> exact h) (Below.refl _ _).drew ?_
        (try simp only [Act.put, List.setIfInBounds_toArray, List.set_cons_zero, List.set_cons_succ]); refine sch_seg ?_; simp only [pickOps, List.getElem?_toArray, List.getElem?_cons_zero, List.getElem?_cons_succ]; (repeat (first | go_big_quiet_skip | (go_big_quiet_want; first | (go_big_quiet_op; first | go_big_quiet_on | ((first | with_reducible refine ⟨_, fun _ _ => rfl, ?_⟩); go_big_quiet_on)) | (simp (contextual := true) [go_sem, M0]; with_reducible refine ⟨_, fun _ _ => rfl, ?_⟩; go_big_quiet_on)))); refine wpQuiet_nil ?_
        have HE2 := Lib.hid (show Below U.heap.size U U.drew from (Below.refl _ _).drew)
        go_wp2_with fail
        refine (HCA.out U.drew HE2.out).mono ?_
        rintro e U1 ⟨LB, ld, rfl, ho, hb⟩
        have HP1 := Lib.hid ho
        have HU1 := Lib.hid (HE2.out.trans (hb.mono HE2.out.size))
        clear ho hb
        go_wp2_with fail
        refine ⟨_, HU1.out, fun _ h => h, ?_⟩
        (try simp only [Act.put, List.setIfInBounds_toArray, List.set_cons_zero, List.set_cons_succ]); refine sch_seg ?_; simp only [pickOps, List.getElem?_toArray, List.getElem?_cons_zero, List.getElem?_cons_succ]; (repeat (first | go_big_quiet_skip | (go_big_quiet_want; first | (go_big_quiet_op; first | go_big_quiet_on | ((first | with_reducible refine ⟨_, fun _ _ => rfl, ?_⟩); go_big_quiet_on)) | (simp (contextual := true) [go_sem, M0]; with_reducible refine ⟨_, fun _ _ => rfl, ?_⟩; go_big_quiet_on)))); refine wpQuiet_nil ?_
        go_wp2_with fail
        refine (HRC.out U1 HU1.out).mono ?_
        rintro e U2 ⟨RB, rd, rfl, ho, hb⟩
        have HP2 := Lib.hid ho
        have HP1b := Lib.hid (own_low HP1.out hb)
        have HU2 := Lib.hid (HU1.out.trans (hb.mono HU1.out.size))
        clear ho hb
        go_wp2_with fail
        refine ⟨_, HU2.out, fun _ h => h, ?_⟩
        (try simp only [Act.put, List.setIfInBounds_toArray, List.set_cons_zero, List.set_cons_succ]); refine sch_seg ?_; simp only [pickOps, List.getElem?_toArray, List.getElem?_cons_zero, List.getElem?_cons_succ]; (repeat (first | go_big_quiet_skip | (go_big_quiet_want; first | (go_big_quiet_op; first | go_big_quiet_on | ((first | with_reducible refine ⟨_, fun _ _ => rfl, ?_⟩); go_big_quiet_on)) | (simp (contextual := true) [go_sem, M0]; with_reducible refine ⟨_, fun _ _ => rfl, ?_⟩; go_big_quiet_on)))); refine wpQuiet_nil ?_
        go_wp2_with fail
        refine (same_any _ _ _ _ _ _ (upI g) (upI g) _ (by simp [upI]) (by simp [upI]) (own_few HP1b.out) (own_few HP2.out) HP1b.out.row HP2.out.row).mono ?_
        rintro e U3 ⟨rfl, hb⟩
        rw [decide_eq_true (rfl : upI g = upI g)]
        have HU3 := Lib.hid (HU2.out.trans (hb.mono HU2.out.size))
        clear hb
        go_wp2_with fail
        refine ⟨_, HU3.out, fun _ h => h, ?_⟩
        (try simp only [Act.put, List.setIfInBounds_toArray, List.set_cons_zero, List.set_cons_succ]); refine sch_seg ?_; simp only [pickOps, List.getElem?_toArray, List.getElem?_cons_zero, List.getElem?_cons_succ]; (repeat (first | go_big_quiet_skip | (go_big_quiet_want; first | (go_big_quiet_op; first | go_big_quiet_on | ((first | with_reducible refine ⟨_, fun _ _ => rfl, ?_⟩); go_big_quiet_on)) | (simp (contextual := true) [go_sem, M0]; with_reducible refine ⟨_, fun _ _ => rfl, ?_⟩; go_big_quiet_on)))); refine wpQuiet_nil ?_
        go_wp2_with fail
        refine (HUS.out U3 HU3.out).mono ?_
        rintro e U4 ⟨kc, vc, rfl, h1, h2, h3, hb⟩
        have HS4 := Lib.hid h1
        have HJ4 := Lib.hid h3
        have HU4 := Lib.hid (HU3.out.trans (hb.mono HU3.out.size))
        clear h1 h2 h3 hb
        go_wp2_with fail
        refine ⟨_, HU4.out, fun _ h => h, ?_⟩
        (try simp only [Act.put, List.setIfInBounds_toArray, List.set_cons_zero, List.set_cons_succ]); refine sch_seg ?_; simp only [pickOps, List.getElem?_toArray, List.getElem?_cons_zero, List.getElem?_cons_succ]; (repeat (first | go_big_quiet_skip | (go_big_quiet_want; first | (go_big_quiet_op; first | go_big_quiet_on | ((first | with_reducible refine ⟨_, fun _ _ => rfl, ?_⟩); go_big_quiet_on)) | (simp (contextual := true) [go_sem, M0]; with_reducible refine ⟨_, fun _ _ => rfl, ?_⟩; go_big_quiet_on)))); refine wpQuiet_nil ?_
        go_wp2_with fail
        refine (HRU.out U4 HU4.out).mono ?_
        rintro e U5 ⟨kd, vd, rfl, h1, h2, h3, hb⟩
        have HS5 := Lib.hid h1
        have HJ5 := Lib.hid h3
        have HS4b := Lib.hid (HS4.out.below hb HS4.out.lt)
        have HU5 := Lib.hid (HU4.out.trans (hb.mono HU4.out.size))
        clear h1 h2 h3 hb
        go_wp2_with fail
        refine ⟨_, HU5.out, fun _ h => h, ?_⟩
        (try simp only [Act.put, List.setIfInBounds_toArray, List.set_cons_zero, List.set_cons_succ]); refine sch_seg ?_; simp only [pickOps, List.getElem?_toArray, List.getElem?_cons_zero, List.getElem?_cons_succ]; (repeat (first | go_big_quiet_skip | (go_big_quiet_want; first | (go_big_quiet_op; first | go_big_quiet_on | ((first | with_reducible refine ⟨_, fun _ _ => rfl, ?_⟩); go_big_quiet_on)) | (simp (contextual := true) [go_sem, M0]; with_reducible refine ⟨_, fun _ _ => rfl, ?_⟩; go_big_quiet_on)))); refine wpQuiet_nil ?_
        go_wp2_with fail
        refine (truths_any _ _ _ _ _ _ vc vd _ HJ4.out.1 HJ5.out.1 (by unfold maxLen; omega) (by unfold maxLen; omega) (row_of_blk HS4b.out HS4b.out.lt) (row_of_blk HS5.out HS5.out.lt)).mono ?_
        rintro e U6 ⟨rfl, hb⟩
        rw [decide_eq_true (HJ4.out.uniq HJ5.out)]
        have HU6 := Lib.hid (HU5.out.trans (hb.mono HU5.out.size))
        clear hb
        go_wp2_with fail
        refine ⟨_, HU6.out, fun _ h => h, ?_⟩
        (try simp only [Act.put, List.setIfInBounds_toArray, List.set_cons_zero, List.set_cons_succ]); refine sch_seg ?_; simp only [pickOps, List.getElem?_toArray, List.getElem?_cons_zero, List.getElem?_cons_succ]; (repeat (first | go_big_quiet_skip | (go_big_quiet_want; first | (go_big_quiet_op; first | go_big_quiet_on | ((first | with_reducible refine ⟨_, fun _ _ => rfl, ?_⟩); go_big_quiet_on)) | (simp (contextual := true) [go_sem, M0]; with_reducible refine ⟨_, fun _ _ => rfl, ?_⟩; go_big_quiet_on)))); refine wpQuiet_nil ?_
        go_wp2_with fail
        refine (HAL.out U6 (HU.out.trans (HU6.out.mono HU.out.size))).mono ?_
        rintro e U7 ⟨rfl, hb⟩
        have HU7 := Lib.hid (HU6.out.trans (hb.mono HU6.out.size))
        clear hb
        go_wp2_with fail
        refine ⟨_, HU7.out, fun _ h => h, ?_⟩
        (try simp only [Act.put, List.setIfInBounds_toArray, List.set_cons_zero, List.set_cons_succ]); refine sch_end ?_; simp only [pickOps, List.getElem?_toArray, List.getElem?_cons_zero, List.getElem?_cons_succ]; (repeat (first | go_big_quiet_skip | (go_big_quiet_want; first | (go_big_quiet_op; first | go_big_quiet_on | ((first | with_reducible refine ⟨_, fun _ _ => rfl, ?_⟩); go_big_quiet_on)) | (simp (contextual := true) [go_sem, M0]; with_reducible refine ⟨_, fun _ _ => rfl, ?_⟩; go_big_quiet_on)))); refine wpQuiet_nil ?_
        go_wp2_with fail
        go_ret
        exact ⟨rfl, HB.out.trans ((HU.out.trans (HU7.out.mono HU.out.size)).mono HB.out.size)⟩

      · have h0' : decide (0 ≤ fi) = false := decide_eq_false h0
        clear hin
        go_enter Tryd.func6, Tryd.ntmps6
        go_upto_region 1 with (fail)
        rw [← HW.out, ← hpb]
        clear hpb
        go_upto_region 7 with (go_at_call 7; refine HC.out.mono ?_; rintro e W1 ⟨rfl, hb1⟩; have HU := Lib.hid hb1; have p1 : W1.cell? ⟨pb, 0, none⟩ = some (.slice A n c) := (HP.out.below hb1 HP.out.lt).cell 0; clear hb1)
        obtain ⟨U, HUE⟩ : ∃ U, Hid (U = W1) := ⟨_, Lib.hid rfl⟩
        rw [← HUE.out] at HU ⊢
        have M0 : ∀ V, Below U.heap.size U V → V.cell? ⟨pb, 0, none⟩ = some (.slice A n c) := fun V h => ((HP.out.below (HU.out.trans (h.mono HU.out.size)) HP.out.lt).cell 0).trans rfl
        have HCA := Lib.hid (fun (V : World) (h : Below U.heap.size U V) => calls_any (c := c) (HT.out.step (HU.out.trans (h.mono HU.out.size))) (HF.out.step (HU.out.trans (h.mono HU.out.size))) HLL.out fi)
        have HRC := Lib.hid (fun (V : World) (h : Below U.heap.size U V) => rcalls_any (c := c) (HF.out.step (HU.out.trans (h.mono HU.out.size))) HLL.out fi)
        have HUS := Lib.hid (fun (V : World) (h : Below U.heap.size U V) => used_any (c := c) (HT.out.step (HU.out.trans (h.mono HU.out.size))) (HF.out.step (HU.out.trans (h.mono HU.out.size))) HLL.out H16.out)
        have HRU := Lib.hid (fun (V : World) (h : Below U.heap.size U V) => rused_any (c := c) (HF.out.step (HU.out.trans (h.mono HU.out.size))) HLL.out H16.out)
        rw [← HN.out] at HCA HRC HUS HRU H16
        have h16 := H16.out
        obtain ⟨g, HG⟩ : ∃ g, Hid (g = clZ fs fi) := ⟨_, Lib.hid rfl⟩
        simp only [← HG.out] at HCA HRC
        refine region_sch (fun w' => Below U.heap.size U w') [([0, 1, 3, 4], 2), ([], 5), ([], 6), ([7, 8, 10], 9), ([], 11), ([], 12), ([13, 14], 15)] [16, 17] (by kernel_rfl) (by kernel_rfl) (by kernel_rfl) (fun _ _ d _ _ h => by cases d <;> exact h) (Below.refl _ _).drew ?_
        (try simp only [Act.put, List.setIfInBounds_toArray, List.set_cons_zero, List.set_cons_succ]); refine sch_seg ?_; simp only [pickOps, List.getElem?_toArray, List.getElem?_cons_zero, List.getElem?_cons_succ]; (repeat (first | go_big_quiet_skip | (go_big_quiet_want; first | (go_big_quiet_op; first | go_big_quiet_on | ((first | with_reducible refine ⟨_, fun _ _ => rfl, ?_⟩); go_big_quiet_on)) | (simp (contextual := true) [go_sem, M0]; with_reducible refine ⟨_, fun _ _ => rfl, ?_⟩; go_big_quiet_on)))); refine wpQuiet_nil ?_
        have HE2 := Lib.hid (show Below U.heap.size U U.drew from (Below.refl _ _).drew)
        go_wp2_with fail
        refine (HCA.out U.drew HE2.out).mono ?_
        rintro e U1 ⟨LB, ld, rfl, ho, hb⟩
        have HP1 := Lib.hid ho
        have HU1 := Lib.hid (HE2.out.trans (hb.mono HE2.out.size))
        clear ho hb
        go_wp2_with fail
        refine ⟨_, HU1.out, fun _ h => h, ?_⟩
        (try simp only [Act.put, List.setIfInBounds_toArray, List.set_cons_zero, List.set_cons_succ]); refine sch_seg ?_; simp only [pickOps, List.getElem?_toArray, List.getElem?_cons_zero, List.getElem?_cons_succ]; (repeat (first | go_big_quiet_skip | (go_big_quiet_want; first | (go_big_quiet_op; first | go_big_quiet_on | ((first | with_reducible refine ⟨_, fun _ _ => rfl, ?_⟩); go_big_quiet_on)) | (simp (contextual := true) [go_sem, M0]; with_reducible refine ⟨_, fun _ _ => rfl, ?_⟩; go_big_quiet_on)))); refine wpQuiet_nil ?_
        go_wp2_with fail
        refine (HRC.out U1 HU1.out).mono ?_
        rintro e U2 ⟨RB, rd, rfl, ho, hb⟩
        have HP2 := Lib.hid ho
        have HP1b := Lib.hid (own_low HP1.out hb)
        have HU2 := Lib.hid (HU1.out.trans (hb.mono HU1.out.size))
        clear ho hb
        go_wp2_with fail
        refine ⟨_, HU2.out, fun _ h => h, ?_⟩
        (try simp only [Act.put, List.setIfInBounds_toArray, List.set_cons_zero, List.set_cons_succ]); refine sch_seg ?_; simp only [pickOps, List.getElem?_toArray, List.getElem?_cons_zero, List.getElem?_cons_succ]; (repeat (first | go_big_quiet_skip | (go_big_quiet_want; first | (go_big_quiet_op; first | go_big_quiet_on | ((first | with_reducible refine ⟨_, fun _ _ => rfl, ?_⟩); go_big_quiet_on)) | (simp (contextual := true) [go_sem, M0]; with_reducible refine ⟨_, fun _ _ => rfl, ?_⟩; go_big_quiet_on)))); refine wpQuiet_nil ?_
        go_wp2_with fail
        refine (same_any _ _ _ _ _ _ (upI g) (upI g) _ (by simp [upI]) (by simp [upI]) (own_few HP1b.out) (own_few HP2.out) HP1b.out.row HP2.out.row).mono ?_
        rintro e U3 ⟨rfl, hb⟩
        rw [decide_eq_true (rfl : upI g = upI g)]
        have HU3 := Lib.hid (HU2.out.trans (hb.mono HU2.out.size))
        clear hb
        go_wp2_with fail
        refine ⟨_, HU3.out, fun _ h => h, ?_⟩
        (try simp only [Act.put, List.setIfInBounds_toArray, List.set_cons_zero, List.set_cons_succ]); refine sch_seg ?_; simp only [pickOps, List.getElem?_toArray, List.getElem?_cons_zero, List.getElem?_cons_succ]; (repeat (first | go_big_quiet_skip | (go_big_quiet_want; first | (go_big_quiet_op; first | go_big_quiet_on | ((first | with_reducible refine ⟨_, fun _ _ => rfl, ?_⟩); go_big_quiet_on)) | (simp (contextual := true) [go_sem, M0]; with_reducible refine ⟨_, fun _ _ => rfl, ?_⟩; go_big_quiet_on)))); refine wpQuiet_nil ?_
        go_wp2_with fail
        refine (HUS.out U3 HU3.out).mono ?_
        rintro e U4 ⟨kc, vc, rfl, h1, h2, h3, hb⟩
        have HS4 := Lib.hid h1
        have HJ4 := Lib.hid h3
        have HU4 := Lib.hid (HU3.out.trans (hb.mono HU3.out.size))
        clear h1 h2 h3 hb
        go_wp2_with fail
        refine ⟨_, HU4.out, fun _ h => h, ?_⟩
        (try simp only [Act.put, List.setIfInBounds_toArray, List.set_cons_zero, List.set_cons_succ]); refine sch_seg ?_; simp only [pickOps, List.getElem?_toArray, List.getElem?_cons_zero, List.getElem?_cons_succ]; (repeat (first | go_big_quiet_skip | (go_big_quiet_want; first | (go_big_quiet_op; first | go_big_quiet_on | ((first | with_reducible refine ⟨_, fun _ _ => rfl, ?_⟩); go_big_quiet_on)) | (simp (contextual := true) [go_sem, M0]; with_reducible refine ⟨_, fun _ _ => rfl, ?_⟩; go_big_quiet_on)))); refine wpQuiet_nil ?_
        go_wp2_with fail
        refine (HRU.out U4 HU4.out).mono ?_
        rintro e U5 ⟨kd, vd, rfl, h1, h2, h3, hb⟩
        have HS5 := Lib.hid h1
        have HJ5 := Lib.hid h3
        have HS4b := Lib.hid (HS4.out.below hb HS4.out.lt)
        have HU5 := Lib.hid (HU4.out.trans (hb.mono HU4.out.size))
        clear h1 h2 h3 hb
        go_wp2_with fail
        refine ⟨_, HU5.out, fun _ h => h, ?_⟩
        (try simp only [Act.put, List.setIfInBounds_toArray, List.set_cons_zero, List.set_cons_succ]); refine sch_seg ?_; simp only [pickOps, List.getElem?_toArray, List.getElem?_cons_zero, List.getElem?_cons_succ]; (repeat (first | go_big_quiet_skip | (go_big_quiet_want; first | (go_big_quiet_op; first | go_big_quiet_on | ((first | with_reducible refine ⟨_, fun _ _ => rfl, ?_⟩); go_big_quiet_on)) | (simp (contextual := true) [go_sem, M0]; with_reducible refine ⟨_, fun _ _ => rfl, ?_⟩; go_big_quiet_on)))); refine wpQuiet_nil ?_
        go_wp2_with fail
        refine (truths_any _ _ _ _ _ _ vc vd _ HJ4.out.1 HJ5.out.1 (by unfold maxLen; omega) (by unfold maxLen; omega) (row_of_blk HS4b.out HS4b.out.lt) (row_of_blk HS5.out HS5.out.lt)).mono ?_
        rintro e U6 ⟨rfl, hb⟩
        rw [decide_eq_true (HJ4.out.uniq HJ5.out)]
        have HU6 := Lib.hid (HU5.out.trans (hb.mono HU5.out.size))
        clear hb
        go_wp2_with fail
        refine ⟨_, HU6.out, fun _ h => h, ?_⟩
        (try simp only [Act.put, List.setIfInBounds_toArray, List.set_cons_zero, List.set_cons_succ]); refine sch_seg ?_; simp only [pickOps, List.getElem?_toArray, List.getElem?_cons_zero, List.getElem?_cons_succ]; (repeat (first | go_big_quiet_skip | (go_big_quiet_want; first | (go_big_quiet_op; first | go_big_quiet_on | ((first | with_reducible refine ⟨_, fun _ _ => rfl, ?_⟩); go_big_quiet_on)) | (simp (contextual := true) [go_sem, M0]; with_reducible refine ⟨_, fun _ _ => rfl, ?_⟩; go_big_quiet_on)))); refine wpQuiet_nil ?_
        go_wp2_with fail
        refine (HAL.out U6 (HU.out.trans (HU6.out.mono HU.out.size))).mono ?_
        rintro e U7 ⟨rfl, hb⟩
        have HU7 := Lib.hid (HU6.out.trans (hb.mono HU6.out.size))
        clear hb
        go_wp2_with fail
        refine ⟨_, HU7.out, fun _ h => h, ?_⟩
        (try simp only [Act.put, List.setIfInBounds_toArray, List.set_cons_zero, List.set_cons_succ]); refine sch_end ?_; simp only [pickOps, List.getElem?_toArray, List.getElem?_cons_zero, List.getElem?_cons_succ]; (repeat (first | go_big_quiet_skip | (go_big_quiet_want; first | (go_big_quiet_op; first | go_big_quiet_on | ((first | with_reducible refine ⟨_, fun _ _ => rfl, ?_⟩); go_big_quiet_on)) | (simp (contextual := true) [go_sem, M0]; with_reducible refine ⟨_, fun _ _ => rfl, ?_⟩; go_big_quiet_on)))); refine wpQuiet_nil ?_
        go_wp2_with fail
        go_ret
        exact ⟨rfl, HB.out.trans ((HU.out.trans (HU7.out.mono HU.out.size)).mono HB.out.size)⟩

end Go.Proofs.YtdpacdmaadodiaaDoor

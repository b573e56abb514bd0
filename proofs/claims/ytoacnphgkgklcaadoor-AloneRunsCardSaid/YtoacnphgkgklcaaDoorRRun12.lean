/-
  Chapter 12: the reference's run of one goroutine: contract of escapementref12.Run. Conditions: the program lies in memory.
-/
import Derived.Test.YtoacnphgkgklcaaDoorRQ12
import Derived.Deep.DeepCutAuto
namespace Go.Proofs.YtoacnphgkgklcaaDoor
open Go.RowKit
theorem rwArr_set0 (d : Wd) (x : Bool) : (rwArr d).setIfInBounds 0 (.bool x) = rwArr { d with stopped := x } := by
  unfold rwArr
  rw [List.setIfInBounds_toArray]
  rfl
theorem rwArr_set1 (d : Wd) (x : Bool) : (rwArr d).setIfInBounds 1 (.bool x) = rwArr { d with token := x } := by
  unfold rwArr
  rw [List.setIfInBounds_toArray]
  rfl
theorem Tryd.infoRes2 : (Tryd.prog.info? 52).map (·.size) = some 15 := by kernel_rfl
set_option maxHeartbeats 8000000 in
set_option maxRecDepth 100000 in
theorem rrun_loop (A : Option Addr) (c : Nat) (fs : List Fn) (n : Nat) (w : World) (hm : fs.length ≤ maxLen) (hf : FnsOk w w.heap.size A fs) (hrun : runB fs = true) (hn : n ≤ 65536) :
    Calls Tryd.prog 25 #[.agg #[.slice A fs.length c], .int .i64 n] w (ResOut w (runA fs n wd0) 0) := by
  have HF := Lib.hid hf
  have HM := Lib.hid hm
  have HRUN := Lib.hid hrun
  have HCH := Lib.hid (show (checkP fs).2.2 = 0 from of_decide_eq_true hrun)
  have hW : ∃ W : World, Hid (W = (w.alloc (.cells #[.slice A fs.length c] 24)).alloc (.cells #[.slice none 0 0, .int .i64 0, .int .i64 0, .int .i64 0, .int .i64 0, .int .i64 0, .int .i64 0, .int .i64 0, .int .i64 0, .int .i64 0, .int .i64 0, .int .i64 0, .slice none 0 0, .bool false, .bool false] 52)) := ⟨_, rfl⟩
  obtain ⟨W, HW⟩ := hW
  have HB0 := Lib.hid (show Below w.heap.size w W by rw [HW.out]; exact below2 w _ _)
  have HBP := Lib.hid (show Blk W w.heap.size 24 #[.slice A fs.length c] by rw [HW.out]; exact (Blk.new w _ _).alloc _)
  have HBR := Lib.hid (show Blk W (w.heap.size + 1) 52 #[.slice none 0 0, .int .i64 0, .int .i64 0, .int .i64 0, .int .i64 0, .int .i64 0, .int .i64 0, .int .i64 0, .int .i64 0, .int .i64 0, .int .i64 0, .int .i64 0, .slice none 0 0, .bool false, .bool false] by rw [HW.out]; exact heap_alloc2_new w _ _)
  clear hf hm hrun
  go_enter Tryd.func25, Tryd.ntmps25
  go_wp2_with fail
  try go_step3
  go_wp2_with fail
  rw [← HW.out]
  refine (rcheckP_any A c fs W HM.out (HF.out.step HB0.out)).mono ?_
  rintro e w1 ⟨rfl, hb1⟩
  have HB1 := Lib.hid (HB0.out.trans (hb1.mono HB0.out.size))
  have HBP1 := Lib.hid (HBP.out.below hb1 HBP.out.lt)
  have HBR1 := Lib.hid (HBR.out.below hb1 HBR.out.lt)
  unfold tri
  generalize checkP fs = r at *
  obtain ⟨r1, r2, r3⟩ := r
  have hr3 := HCH.out
  simp only at hr3
  subst hr3
  have hn1 : decide ((n : Int) < 0) = false := by simp
  have hn2 : decide ((65536 : Int) < n) = false := by simp; omega
  clear hb1
  go_wp2_with fail
  refine (rNew_any 0 0 w1).mono ?_
  rintro e w2 ⟨rfl, hb2⟩
  have HB2 := Lib.hid (HB1.out.trans (hb2.mono HB1.out.size))
  have HBP2 := Lib.hid (HBP1.out.below hb2 HBP1.out.lt)
  have HBR2 := Lib.hid (HBR1.out.below hb2 HBR1.out.lt)
  rw [show thArr ⟨0, 0, [0, 0, 0, 0, 0, 0, 0, 0], [], false⟩ none 0 = #[.int .i64 0, .int .i64 0, .int .i64 0, .int .i64 0, .int .i64 0, .int .i64 0, .int .i64 0, .int .i64 0, .int .i64 0, .int .i64 0, .slice none 0 0, .bool false] from rfl]
  clear hb2
  go_wp2_with fail
  have hg : ∃ g : Nat, Hid (g = w2.heap.size) := ⟨_, rfl⟩
  obtain ⟨g, HG⟩ := hg
  have hgw : ∃ gw : Nat, Hid (gw = w2.heap.size + 1) := ⟨_, rfl⟩
  obtain ⟨gw, HGW⟩ := hgw
  rw [← HGW.out, ← HG.out]
  go_loopw [] (fun wr => ∃ (k : Nat) (d : Wd) (E : Option Addr) (ce : Nat) (B : Option Addr) (cb : Nat), k ≤ n ∧ Hid (runA fs (n - k) d = runA fs n wd0) ∧ Hid (RRInv w wr fs A c g gw k d E ce B cb)) (fun wr => n - (intOf ((wr.cell? ⟨g, 1, none⟩).getD undef)).toNat)
  case atStart =>
    refine ⟨0, wd0, none, 0, none, 0, Nat.zero_le _, rfl, ?_⟩
    have hz : w.heap.size + 1 < w2.heap.size := HBR2.out.lt
    have hpos := run_fn HRUN.out
    have hcode := (fn_ok (hpos.2.2 0 hpos.1)).1
    refine ⟨?_, ?_, Own.nil _ _ _ _, ⟨rfl, Row.nil, Nat.le_refl _, Nat.zero_le _⟩, fitsT_of HRUN.out rfl (placeB_of (k := 0) (m := 0) hpos.1 hcode) (Nat.zero_le _) rfl, .inl rfl, rfl, Nat.le_refl _, (HBP2.out.alloc _).alloc _, ⟨_, (HBR2.out.alloc _).alloc _, rfl⟩, (HB2.out.alloc HB2.out.size _).alloc (Nat.le_trans HB2.out.size (by simp)) _, by rw [HG.out]; exact hz, by rw [HG.out, HGW.out]; omega⟩
    · rw [HG.out]
      exact (Blk.new w2 _ _).alloc _
    · rw [HGW.out]
      have := Blk.new (w2.alloc (.cells (resArr wd0 none 0 none 0) 52)) 76 (rwArr wd0)
      rw [World.size_alloc] at this
      exact this
  case round =>
    obtain ⟨k, d, E, ce, B, cb, hk, HRA, HIV⟩ := hrel
    have h8 := HIV.out.ok.regs
    have q1 := (HIV.out.blk.cell 1).trans (resArr_1 d E ce B cb)
    have q14 := (HIV.out.blk.cell 14).trans (resArr_14 E ce B cb h8)
    rw [HIV.out.steps] at q1
    have HSZR := Lib.hid (show (Tryd.prog.info? 52).map (·.size) = some (resArr d E ce B cb).size by rw [resArr_size E ce B cb h8]; exact Tryd.infoRes2)
    have HSZT := Lib.hid (show (Tryd.prog.info? 28).map (·.size) = some (thArr d.th B cb).size by rw [thArr_size B cb h8]; exact Tryd.infoTh)
    have H8 := Lib.hid h8
    have HSUB := Lib.hid (fun (j : Nat) (hj : j < (thArr d.th B cb).size) => resArr_th E ce B cb h8 j (by rw [thArr_size B cb h8] at hj; exact hj))
    by_cases hlt : k < n
    · cases hsk : d.stuck with
      | true =>
        have HEND := Lib.hid (show runA fs (n - k) d = d from by
          cases h : n - k with
          | zero => rfl
          | succ j => unfold runA; rw [if_pos (.inr hsk)])
        rw [hsk] at q14
        clear hsk h8
        obtain ⟨old, hold, hosz⟩ := HIV.out.res
        have HOLD := Lib.hid hold
        have HOSZ := Lib.hid hosz
        clear hold hosz
        go_wp2_with (first | (refine wpList_load_rowW (by rfl) 52 _ rfl g rfl 52 (resArr d E ce B cb) (0, 0) _ HIV.out.blk Tryd.underlying52 rfl HSZR.out ?_) | (refine wpList_store_row rfl 52 _ _ rfl (w.heap.size + 1) (resArr d E ce B cb) rfl rfl 52 _ HOLD.out HSZR.out (by rw [resArr_size E ce B cb H8.out, HOSZ.out]) (resArr_one E ce B cb) ?_))
        refine bodyPost_ret (results_cell2 Tryd.results25 _ _ (w.heap.size + 1) 52 (resArr d E ce B cb) (0, 0) _ rfl (HOLD.out.setRow _) Tryd.underlying52 rfl HSZR.out) rfl ?_
        rw [← HRA.out, HEND.out]
        exact HIV.out.fin
      | false =>
        rw [hsk] at q14
        have kp := HIV.out.prg.cell 0
        simp only [List.getElem?_toArray, List.getElem?_cons_zero] at kp
        cases hdn : d.th.done with
        | true =>
          have HEND := Lib.hid (show runA fs (n - k) d = d from by
            cases h : n - k with
            | zero => rfl
            | succ j => unfold runA; rw [if_pos (.inl hdn)])
          have HDN := Lib.hid hdn
          clear hdn hsk h8
          go_wp2_with (refine wpList_load_subW (by rfl) 28 _ rfl g 2 rfl 52 (resArr d E ce B cb) (thArr d.th B cb) _ HIV.out.blk HSUB.out Tryd.underlying28 rfl HSZT.out ?_)
          refine (rAt_any d.th A B c cb fs wr HM.out (HF.out.step HIV.out.bel) HIV.out.ok HIV.out.fits).mono ?_
          rintro e w3 ⟨rfl, hb3⟩
          rw [HDN.out, if_pos rfl]
          unfold insArr zeroIns
          have HIV4 := Lib.hid ((HIV.out.step hb3).step ((Below.refl _ _).alloc (Nat.le_refl _) (.cells #[.int .i64 0, .int .i64 0, .int .i64 0, .int .i64 0, .int .i64 0] 32)))
          clear hb3
          simp only [Bool.not_true]
          obtain ⟨old, hold, hosz⟩ := HIV4.out.res
          have HOLD := Lib.hid hold
          have HOSZ := Lib.hid hosz
          clear hold hosz
          go_wp2_with (first | (refine wpList_load_rowW (by rfl) 52 _ rfl g rfl 52 (resArr d E ce B cb) (0, 0) _ HIV4.out.blk Tryd.underlying52 rfl HSZR.out ?_) | (refine wpList_store_row rfl 52 _ _ rfl (w.heap.size + 1) (resArr d E ce B cb) rfl rfl 52 _ HOLD.out HSZR.out (by rw [resArr_size E ce B cb H8.out, HOSZ.out]) (resArr_one E ce B cb) ?_))
          refine bodyPost_ret (results_cell2 Tryd.results25 _ _ (w.heap.size + 1) 52 (resArr d E ce B cb) (0, 0) _ rfl (HOLD.out.setRow _) Tryd.underlying52 rfl HSZR.out) rfl ?_
          rw [← HRA.out, HEND.out]
          exact HIV4.out.fin
        | false =>
          obtain ⟨_, fk, m, ek, em, hfk, hfm, ei⟩ := fits_place HIV.out.fits hdn
          have HEI := Lib.hid ei
          have HINR := Lib.hid (run_ins HRUN.out hfk hfm)
          have HDN := Lib.hid hdn
          have HSK := Lib.hid hsk
          have hins0 : (if d.th.done = true then zeroIns else insAt fs d.th.fn d.th.pc) = fs[fk].code[m] := by rw [if_neg (by rw [hdn]; decide)]; exact ei
          have HINS := Lib.hid hins0
          clear ei ek em hins0 hdn hsk
          go_wp2_with (refine wpList_load_subW (by rfl) 28 _ rfl g 2 rfl 52 (resArr d E ce B cb) (thArr d.th B cb) _ HIV.out.blk HSUB.out Tryd.underlying28 rfl HSZT.out ?_)
          refine (rAt_any d.th A B c cb fs wr HM.out (HF.out.step HIV.out.bel) HIV.out.ok HIV.out.fits).mono ?_
          rintro e w3 ⟨rfl, hb3⟩
          rw [HINS.out, HDN.out]
          generalize hins : fs[fk].code[m] = ins at *
          obtain ⟨op, ia, ib, ic, inn⟩ := ins
          obtain ⟨a, hia⟩ := Int.eq_ofNat_of_zero_le HINR.out.a0
          simp only at hia
          subst hia
          have ha8 : a < 8 := by have := HINR.out.a8; simp only at this; omega
          have HIV3 := Lib.hid (HIV.out.step hb3)
          have HQa := Lib.hid (HIV3.out.q12 #[.int .i64 op, .int .i64 (a : Int), .int .i64 ib, .int .i64 ic, .int .i64 inn])
          have HKa := Lib.hid (HIV3.out.ok.step ((Below.refl _ _).alloc (Nat.le_refl _) (.cells #[.int .i64 op, .int .i64 (a : Int), .int .i64 ib, .int .i64 ic, .int .i64 inn] 32)))
          unfold insArr
          simp only [Bool.not_false]
          clear hb3 hins kp q14 q1
          go_wp2_with fail
          have hwa : ∃ wa : World, Hid (wa = w3.alloc (.cells #[.int .i64 op, .int .i64 (a : Int), .int .i64 ib, .int .i64 ic, .int .i64 inn] 32)) := ⟨_, rfl⟩
          obtain ⟨wa, HWA⟩ := hwa
          have hgi : ∃ gI : Nat, Hid (gI = w3.heap.size) := ⟨_, rfl⟩
          obtain ⟨gI, HGI⟩ := hgi
          rw [← HWA.out, ← HGI.out]
          rw [← HWA.out, ← HGI.out] at HQa
          rw [← HWA.out] at HKa
          have hrv : ∃ rv : Int, Hid (d.th.regs.getD a 0 = rv) := ⟨_, rfl⟩
          obtain ⟨rv, HRV⟩ := hrv
          have hax : ∃ x, Hid (ansA d op rv = x) := ⟨_, rfl⟩
          obtain ⟨⟨ans, tok⟩, HX⟩ := hax
          have hrr : ∃ x, Hid (stepT fs d.th ans = x) := ⟨_, rfl⟩
          obtain ⟨⟨u, nn, did⟩, HST⟩ := hrr
          have HFU := Lib.hid (fits_step ans HIV.out.fits)
          rw [HST.out] at HFU
          have F0 : ∀ w', S10 w.heap.size g gI (.slice A fs.length c) (thArr d.th B cb) #[.int .i64 op, .int .i64 (a : Int), .int .i64 ib, .int .i64 ic, .int .i64 inn] w' → w'.cell? ⟨w.heap.size, 0, none⟩ = some (.slice A fs.length c) := fun _ h => h.1
          have F1 : ∀ w', S10 w.heap.size g gI (.slice A fs.length c) (thArr d.th B cb) #[.int .i64 op, .int .i64 (a : Int), .int .i64 ib, .int .i64 ic, .int .i64 inn] w' → w'.cell? ⟨gI, 1, none⟩ = some (.int .i64 (a : Int)) := fun _ h => h.2.1 1 _ rfl
          have F2 : ∀ w', S10 w.heap.size g gI (.slice A fs.length c) (thArr d.th B cb) #[.int .i64 op, .int .i64 (a : Int), .int .i64 ib, .int .i64 ic, .int .i64 inn] w' → w'.cell? ⟨g, 4 + a, none⟩ = some (.int .i64 rv) := fun _ h => by
            have := h.2.2 (2 + a) _ (thArr_reg B cb H8.out a ha8)
            rw [← Nat.add_assoc, HRV.out] at this
            exact this
          have LI : ∀ w', S10 w.heap.size g gI (.slice A fs.length c) (thArr d.th B cb) #[.int .i64 op, .int .i64 (a : Int), .int .i64 ib, .int .i64 ic, .int .i64 inn] w' → (loadVar 32 ⟨gI, 0, none⟩).run Tryd.prog w' = .ok (.agg #[.int .i64 op, .int .i64 (a : Int), .int .i64 ib, .int .i64 ic, .int .i64 inn]) w' := fun w' h => run_loadVar_cells w' gI 0 _ _ _ h.2.1 Tryd.underlying32 rfl (Tryd.infoIns5 _ _ _ _ _)
          have LT : ∀ w', S10 w.heap.size g gI (.slice A fs.length c) (thArr d.th B cb) #[.int .i64 op, .int .i64 (a : Int), .int .i64 ib, .int .i64 ic, .int .i64 inn] w' → (loadVar 28 ⟨g, 2, none⟩).run Tryd.prog w' = .ok (.agg (thArr d.th B cb)) w' := fun w' h => run_loadVar_cells w' g 2 _ _ _ h.2.2 Tryd.underlying28 rfl HSZT.out
          have hl1 := HQa.out.lt1
          have hl2 := HQa.out.lt2
          have hl3 := HQa.out.lt3
          have hl4 := HQa.out.lt4
          go_cut [13, 14, 15] (fun v13 v14 v15 wc => ∃ gT B4 d4, v13 = .pointer (some ⟨gT, 0, none⟩) ∧ v14 = .int .i64 nn ∧ v15 = .bool did ∧ Hid (RCut w wr wc fs.length A c g gw gI (gI + 1) d tok E ce B cb #[.int .i64 op, .int .i64 (a : Int), .int .i64 ib, .int .i64 ic, .int .i64 inn] u gT B4 d4))
          case first =>
            refine region_tree (S10 w.heap.size g gI (.slice A fs.length c) (thArr d.th B cb) #[.int .i64 op, .int .i64 (a : Int), .int .i64 ib, .int .i64 ic, .int .i64 inn]) (.two [0, 1, 2, 3, 4, 5, 6, 7, 8, 9, 10] 11 (.two [] 12 (.one [13, 14, 15, 16] 17 (.one [] 18 (.fin [19, 20]))) 17 (.one [] 12 (.one [13, 14, 15, 16] 18 (.fin [19, 20])))) 17 (.one [] 11 (.one [] 12 (.one [13, 14, 15, 16] 18 (.fin [19, 20]))))) (by kernel_rfl) (by kernel_rfl) (by kernel_rfl) (fun _ _ d _ _ h => by cases d <;> exact h) (HQa.out.drew_.s10 H8.out) ?_
            (try simp only [Act.put]); refine tree_two ?_; simp only [pickOps, List.getElem?_toArray, List.getElem?_cons_zero, List.getElem?_cons_succ]; (repeat (first | (refine quiet_load_at (by rfl) 28 _ rfl ⟨g, 2, none⟩ rfl (thArr d.th B cb) LT ?_; simp only [Act.put, List.setIfInBounds_toArray, List.set_cons_zero, List.set_cons_succ]) | (refine quiet_load_at (by rfl) 32 _ rfl ⟨gI, 0, none⟩ rfl #[.int .i64 op, .int .i64 (a : Int), .int .i64 ib, .int .i64 ic, .int .i64 inn] LI ?_; simp only [Act.put, List.setIfInBounds_toArray, List.set_cons_zero, List.set_cons_succ]) | go_big_quiet_skip | (go_big_quiet_want; first | (go_big_quiet_op; first | go_big_quiet_on | ((first | with_reducible refine ⟨_, fun _ _ => rfl, ?_⟩); go_big_quiet_on)) | (simp (contextual := true) [go_sem, F0, F1, F2]; with_reducible refine ⟨_, fun _ _ => rfl, ?_⟩; go_big_quiet_on)))); refine wpQuiet_nil ?_
            refine ⟨?_, ?_⟩
            · go_wp2_with fail
              refine (rAnswer_any d gw op a ib ic inn rv wa.drew HQa.out.drew_.wld w.heap.size (by omega)).mono ?_
              rintro e w5 ⟨rfl, hW5, hO5, hb5⟩
              rw [HX.out] at hW5 ⊢
              have HQ5 := Lib.hid (HQa.out.drew_.off hO5 hW5 hb5)
              have HK5 := Lib.hid (thok_off HKa.out.drew_ hO5.1 (HIV.out.neB.imp id fun hn x hx hxl => hO5.2 x hxl (by have := (hn x hx).1; omega)))
              clear hW5 hO5 hb5
              go_wp2_with fail
              refine ⟨(S10 w.heap.size g gI (.slice A fs.length c) (thArr d.th B cb) #[.int .i64 op, .int .i64 (a : Int), .int .i64 ib, .int .i64 ic, .int .i64 inn]), HQ5.out.s10 H8.out, fun _ h => h, ?_⟩
              (try simp only [Act.put, List.setIfInBounds_toArray, List.set_cons_zero, List.set_cons_succ]); refine tree_two ?_; simp only [pickOps, List.getElem?_toArray, List.getElem?_cons_zero, List.getElem?_cons_succ]; (repeat (first | go_big_quiet_skip | (go_big_quiet_want; first | (go_big_quiet_op; first | go_big_quiet_on | ((first | with_reducible refine ⟨_, fun _ _ => rfl, ?_⟩); go_big_quiet_on)) | (simp (contextual := true) [go_sem, H8]; with_reducible refine ⟨_, fun _ _ => rfl, ?_⟩; go_big_quiet_on)))); refine wpQuiet_nil ?_
              refine ⟨?_, ?_⟩
              · go_wp2_with fail
                refine (rStep_run d.th A B c cb fs ans w5 HM.out (HF.out.step HQ5.out.bel) HK5.out HIV.out.fits HDN.out).mono ?_
                rintro e w6 hout
                rw [HST.out] at hout
                obtain ⟨B4, d4, rfl, hok, hfr, hb6⟩ := hout
                have HQ6 := Lib.hid (HQ5.out.step hb6)
                have HOK := Lib.hid hok
                have HFR := Lib.hid (fun x (hx : ob B4 = some x) => Nat.le_trans HQ5.out.big (hfr x hx))
                clear hok hfr hb6
                go_wp2_with fail
                refine ⟨(S10 w.heap.size g gI (.slice A fs.length c) (thArr d.th B cb) #[.int .i64 op, .int .i64 (a : Int), .int .i64 ib, .int .i64 ic, .int .i64 inn]), HQ6.out.s10 H8.out, fun _ h => h, ?_⟩
                (try simp only [Act.put, List.setIfInBounds_toArray, List.set_cons_zero, List.set_cons_succ]); refine tree_one ?_; simp only [pickOps, List.getElem?_toArray, List.getElem?_cons_zero, List.getElem?_cons_succ]; (repeat (first | go_big_quiet_skip | (go_big_quiet_want; first | (go_big_quiet_op; first | go_big_quiet_on | ((first | with_reducible refine ⟨_, fun _ _ => rfl, ?_⟩); go_big_quiet_on)) | (simp (contextual := true) [go_sem, H8]; with_reducible refine ⟨_, fun _ _ => rfl, ?_⟩; go_big_quiet_on)))); refine wpQuiet_nil ?_
                go_wp2_with fail
                have HQ7 := Lib.hid (HQ6.out.step ((Below.refl _ _).alloc (Nat.le_refl _) (.cells #[.int .i64 0, .int .i64 0, .int .i64 0, .int .i64 0, .int .i64 0, .int .i64 0, .int .i64 0, .int .i64 0, .int .i64 0, .int .i64 0, .slice none 0 0, .bool false] 28)))
                have HSZU := Lib.hid (show (Tryd.prog.info? 28).map (·.size) = some (thArr u B4 d4).size by rw [thArr_size B4 d4 HOK.out.regs]; exact Tryd.infoTh)
                refine ⟨(S10 w.heap.size g gI (.slice A fs.length c) (thArr d.th B cb) #[.int .i64 op, .int .i64 (a : Int), .int .i64 ib, .int .i64 ic, .int .i64 inn]), HQ7.out.s10 H8.out, fun _ h => h, ?_⟩
                (try simp only [Act.put, List.setIfInBounds_toArray, List.set_cons_zero, List.set_cons_succ]); refine tree_one ?_; simp only [pickOps, List.getElem?_toArray, List.getElem?_cons_zero, List.getElem?_cons_succ]; (repeat (first | go_big_quiet_skip | (go_big_quiet_want; first | (go_big_quiet_op; first | go_big_quiet_on | ((first | with_reducible refine ⟨_, fun _ _ => rfl, ?_⟩); go_big_quiet_on)) | (simp (contextual := true) [go_sem, H8]; with_reducible refine ⟨_, fun _ _ => rfl, ?_⟩; go_big_quiet_on)))); refine wpQuiet_nil ?_
                have HQ8 := Lib.hid (RCut.of (wr := wr) HQ7.out (Blk.new w6 _ _) HQ6.out.big (HOK.out.step ((Below.refl _ _).alloc (Nat.le_refl _) _)) HFR.out ((thok_lt HOK.out).imp id fun hl x hx => by have := hl x hx; omega))
                go_wp2_with (refine wpList_store_row rfl 28 _ _ rfl w6.heap.size (thArr u B4 d4) rfl rfl 28 _ (Blk.new w6 _ _) HSZU.out (by rw [thArr_size B4 d4 HOK.out.regs]; rfl) (thArr_one u B4 d4) ?_)
                refine ⟨(S10 w.heap.size g gI (.slice A fs.length c) (thArr d.th B cb) #[.int .i64 op, .int .i64 (a : Int), .int .i64 ib, .int .i64 ic, .int .i64 inn]), HQ8.out.q.s10 H8.out, fun _ h => h, ?_⟩
                (try simp only [Act.put]); refine tree_fin ?_; simp only [pickOps, List.getElem?_toArray, List.getElem?_cons_zero, List.getElem?_cons_succ]; (repeat (first | go_big_quiet_skip | (go_big_quiet_want; first | (go_big_quiet_op; first | go_big_quiet_on | ((first | with_reducible refine ⟨_, fun _ _ => rfl, ?_⟩); go_big_quiet_on)) | (simp (contextual := true) [go_sem, H8]; with_reducible refine ⟨_, fun _ _ => rfl, ?_⟩; go_big_quiet_on)))); refine wpQuiet_nil ?_
                go_wp2_with fail
                go_meet
                case rel => exact ⟨_, _, _, rfl, rfl, rfl, HQ8⟩
              · go_wp2_with fail
                have HQ6 := Lib.hid (HQ5.out.step ((Below.refl _ _).alloc (Nat.le_refl _) (.cells #[.int .i64 0, .int .i64 0, .int .i64 0, .int .i64 0, .int .i64 0, .int .i64 0, .int .i64 0, .int .i64 0, .int .i64 0, .int .i64 0, .slice none 0 0, .bool false] 28)))
                have HK6 := Lib.hid (HK5.out.step ((Below.refl _ _).alloc (Nat.le_refl _) (.cells #[.int .i64 0, .int .i64 0, .int .i64 0, .int .i64 0, .int .i64 0, .int .i64 0, .int .i64 0, .int .i64 0, .int .i64 0, .int .i64 0, .slice none 0 0, .bool false] 28)))
                have HZ6 := Lib.hid (Blk.new w5 28 #[.int .i64 0, .int .i64 0, .int .i64 0, .int .i64 0, .int .i64 0, .int .i64 0, .int .i64 0, .int .i64 0, .int .i64 0, .int .i64 0, .slice none 0 0, .bool false])
                have hw6 : ∃ w6 : World, Hid (w6 = w5.alloc (.cells #[.int .i64 0, .int .i64 0, .int .i64 0, .int .i64 0, .int .i64 0, .int .i64 0, .int .i64 0, .int .i64 0, .int .i64 0, .int .i64 0, .slice none 0 0, .bool false] 28)) := ⟨_, rfl⟩
                obtain ⟨w6, HW6⟩ := hw6
                have HS6 := Lib.hid (show w6.heap.size = w5.heap.size + 1 by rw [HW6.out]; simp)
                rw [← HW6.out]
                rw [← HW6.out] at HQ6 HK6 HZ6
                refine ⟨(S10 w.heap.size g gI (.slice A fs.length c) (thArr d.th B cb) #[.int .i64 op, .int .i64 (a : Int), .int .i64 ib, .int .i64 ic, .int .i64 inn]), HQ6.out.s10 H8.out, fun _ h => h, ?_⟩
                (try simp only [Act.put, List.setIfInBounds_toArray, List.set_cons_zero, List.set_cons_succ]); refine tree_one ?_; simp only [pickOps, List.getElem?_toArray, List.getElem?_cons_zero, List.getElem?_cons_succ]; (repeat (first | go_big_quiet_skip | (go_big_quiet_want; first | (go_big_quiet_op; first | go_big_quiet_on | ((first | with_reducible refine ⟨_, fun _ _ => rfl, ?_⟩); go_big_quiet_on)) | (simp (contextual := true) [go_sem, H8]; with_reducible refine ⟨_, fun _ _ => rfl, ?_⟩; go_big_quiet_on)))); refine wpQuiet_nil ?_
                go_wp2_with fail
                refine (rStep_run d.th A B c cb fs ans w6 HM.out (HF.out.step HQ6.out.bel) HK6.out HIV.out.fits HDN.out).mono ?_
                rintro e w7 hout
                rw [HST.out] at hout
                obtain ⟨B4, d4, rfl, hok, hfr, hb7⟩ := hout
                have HQ7 := Lib.hid (HQ6.out.step hb7)
                have HOK := Lib.hid hok
                have HFR := Lib.hid hfr
                have HZ7 := Lib.hid (HZ6.out.below hb7 HZ6.out.lt)
                have HSZU := Lib.hid (show (Tryd.prog.info? 28).map (·.size) = some (thArr u B4 d4).size by rw [thArr_size B4 d4 HOK.out.regs]; exact Tryd.infoTh)
                have hgz : ∃ gZ : Nat, Hid (gZ = w5.heap.size) := ⟨_, rfl⟩
                obtain ⟨gZ, HGZ⟩ := hgz
                rw [← HGZ.out]
                rw [← HGZ.out] at HZ7
                clear hok hfr hb7
                go_wp2_with fail
                refine ⟨(S10 w.heap.size g gI (.slice A fs.length c) (thArr d.th B cb) #[.int .i64 op, .int .i64 (a : Int), .int .i64 ib, .int .i64 ic, .int .i64 inn]), HQ7.out.s10 H8.out, fun _ h => h, ?_⟩
                (try simp only [Act.put, List.setIfInBounds_toArray, List.set_cons_zero, List.set_cons_succ]); refine tree_one ?_; simp only [pickOps, List.getElem?_toArray, List.getElem?_cons_zero, List.getElem?_cons_succ]; (repeat (first | go_big_quiet_skip | (go_big_quiet_want; first | (go_big_quiet_op; first | go_big_quiet_on | ((first | with_reducible refine ⟨_, fun _ _ => rfl, ?_⟩); go_big_quiet_on)) | (simp (contextual := true) [go_sem, H8]; with_reducible refine ⟨_, fun _ _ => rfl, ?_⟩; go_big_quiet_on)))); refine wpQuiet_nil ?_
                have HQ8 := Lib.hid (RCut.of (wr := wr) HQ7.out HZ7.out (by rw [HGZ.out]; exact HQ5.out.big) HOK.out (fun x hx => by have := HFR.out x hx; have := HS6.out; have := HQ5.out.big; omega) (.inr fun x hx => by have := HFR.out x hx; have := HS6.out; have := HGZ.out; omega))
                go_wp2_with (refine wpList_store_row rfl 28 _ _ rfl gZ (thArr u B4 d4) rfl rfl 28 _ HZ7.out HSZU.out (by rw [thArr_size B4 d4 HOK.out.regs]; rfl) (thArr_one u B4 d4) ?_)
                refine ⟨(S10 w.heap.size g gI (.slice A fs.length c) (thArr d.th B cb) #[.int .i64 op, .int .i64 (a : Int), .int .i64 ib, .int .i64 ic, .int .i64 inn]), HQ8.out.q.s10 H8.out, fun _ h => h, ?_⟩
                (try simp only [Act.put]); refine tree_fin ?_; simp only [pickOps, List.getElem?_toArray, List.getElem?_cons_zero, List.getElem?_cons_succ]; (repeat (first | go_big_quiet_skip | (go_big_quiet_want; first | (go_big_quiet_op; first | go_big_quiet_on | ((first | with_reducible refine ⟨_, fun _ _ => rfl, ?_⟩); go_big_quiet_on)) | (simp (contextual := true) [go_sem, H8]; with_reducible refine ⟨_, fun _ _ => rfl, ?_⟩; go_big_quiet_on)))); refine wpQuiet_nil ?_
                go_wp2_with fail
                go_meet
                case rel => exact ⟨_, _, _, rfl, rfl, rfl, HQ8⟩
            · go_wp2_with fail
              have HQ4 := Lib.hid (HQa.out.step ((Below.refl _ _).alloc (Nat.le_refl _) (.cells #[.int .i64 0, .int .i64 0, .int .i64 0, .int .i64 0, .int .i64 0, .int .i64 0, .int .i64 0, .int .i64 0, .int .i64 0, .int .i64 0, .slice none 0 0, .bool false] 28)) |>.drew_)
              have HK4 := Lib.hid (HKa.out.step ((Below.refl _ _).alloc (Nat.le_refl _) (.cells #[.int .i64 0, .int .i64 0, .int .i64 0, .int .i64 0, .int .i64 0, .int .i64 0, .int .i64 0, .int .i64 0, .int .i64 0, .int .i64 0, .slice none 0 0, .bool false] 28)) |>.drew_)
              have HZ4 := Lib.hid (Blk.new wa 28 #[.int .i64 0, .int .i64 0, .int .i64 0, .int .i64 0, .int .i64 0, .int .i64 0, .int .i64 0, .int .i64 0, .int .i64 0, .int .i64 0, .slice none 0 0, .bool false] |>.drew)
              have hw4 : ∃ w4 : World, Hid (w4 = (wa.alloc (.cells #[.int .i64 0, .int .i64 0, .int .i64 0, .int .i64 0, .int .i64 0, .int .i64 0, .int .i64 0, .int .i64 0, .int .i64 0, .int .i64 0, .slice none 0 0, .bool false] 28)).drew) := ⟨_, rfl⟩
              obtain ⟨w4, HW4⟩ := hw4
              have HS4 := Lib.hid (show w4.heap.size = wa.heap.size + 1 by rw [HW4.out]; simp)
              have hgz : ∃ gZ : Nat, Hid (gZ = wa.heap.size) := ⟨_, rfl⟩
              obtain ⟨gZ, HGZ⟩ := hgz
              rw [← HW4.out, ← HGZ.out]
              rw [← HW4.out] at HQ4 HK4 HZ4
              have HZ4' : Hid (Blk w4 gZ 28 #[.int .i64 0, .int .i64 0, .int .i64 0, .int .i64 0, .int .i64 0, .int .i64 0, .int .i64 0, .int .i64 0, .int .i64 0, .int .i64 0, .slice none 0 0, .bool false]) := by rw [HGZ.out]; exact HZ4
              refine ⟨(S10 w.heap.size g gI (.slice A fs.length c) (thArr d.th B cb) #[.int .i64 op, .int .i64 (a : Int), .int .i64 ib, .int .i64 ic, .int .i64 inn]), HQ4.out.s10 H8.out, fun _ h => h, ?_⟩
              (try simp only [Act.put, List.setIfInBounds_toArray, List.set_cons_zero, List.set_cons_succ]); refine tree_one ?_; simp only [pickOps, List.getElem?_toArray, List.getElem?_cons_zero, List.getElem?_cons_succ]; (repeat (first | go_big_quiet_skip | (go_big_quiet_want; first | (go_big_quiet_op; first | go_big_quiet_on | ((first | with_reducible refine ⟨_, fun _ _ => rfl, ?_⟩); go_big_quiet_on)) | (simp (contextual := true) [go_sem, H8]; with_reducible refine ⟨_, fun _ _ => rfl, ?_⟩; go_big_quiet_on)))); refine wpQuiet_nil ?_
              go_wp2_with fail
              refine (rAnswer_any d gw op a ib ic inn rv w4 HQ4.out.wld w.heap.size (by omega)).mono ?_
              rintro e w5 ⟨rfl, hW5, hO5, hb5⟩
              rw [HX.out] at hW5 ⊢
              have HQ5 := Lib.hid (HQ4.out.off hO5 hW5 hb5)
              have HK5 := Lib.hid (thok_off HK4.out hO5.1 (HIV.out.neB.imp id fun hn x hx hxl => hO5.2 x hxl (by have := (hn x hx).1; omega)))
              have HZ5 := Lib.hid (hO5.blk HZ4'.out (by have := HGZ.out; have := HQa.out.big; omega))
              have HS5 := Lib.hid hO5.1
              clear hW5 hO5 hb5
              go_wp2_with fail
              refine ⟨(S10 w.heap.size g gI (.slice A fs.length c) (thArr d.th B cb) #[.int .i64 op, .int .i64 (a : Int), .int .i64 ib, .int .i64 ic, .int .i64 inn]), HQ5.out.s10 H8.out, fun _ h => h, ?_⟩
              (try simp only [Act.put, List.setIfInBounds_toArray, List.set_cons_zero, List.set_cons_succ]); refine tree_one ?_; simp only [pickOps, List.getElem?_toArray, List.getElem?_cons_zero, List.getElem?_cons_succ]; (repeat (first | go_big_quiet_skip | (go_big_quiet_want; first | (go_big_quiet_op; first | go_big_quiet_on | ((first | with_reducible refine ⟨_, fun _ _ => rfl, ?_⟩); go_big_quiet_on)) | (simp (contextual := true) [go_sem, H8]; with_reducible refine ⟨_, fun _ _ => rfl, ?_⟩; go_big_quiet_on)))); refine wpQuiet_nil ?_
              go_wp2_with fail
              refine (rStep_run d.th A B c cb fs ans w5 HM.out (HF.out.step HQ5.out.bel) HK5.out HIV.out.fits HDN.out).mono ?_
              rintro e w7 hout
              rw [HST.out] at hout
              obtain ⟨B4, d4, rfl, hok, hfr, hb7⟩ := hout
              have HQ7 := Lib.hid (HQ5.out.step hb7)
              have HOK := Lib.hid hok
              have HFR := Lib.hid hfr
              have HZ7 := Lib.hid (HZ5.out.below hb7 HZ5.out.lt)
              have HSZU := Lib.hid (show (Tryd.prog.info? 28).map (·.size) = some (thArr u B4 d4).size by rw [thArr_size B4 d4 HOK.out.regs]; exact Tryd.infoTh)
              clear hok hfr hb7
              go_wp2_with fail
              refine ⟨(S10 w.heap.size g gI (.slice A fs.length c) (thArr d.th B cb) #[.int .i64 op, .int .i64 (a : Int), .int .i64 ib, .int .i64 ic, .int .i64 inn]), HQ7.out.s10 H8.out, fun _ h => h, ?_⟩
              (try simp only [Act.put, List.setIfInBounds_toArray, List.set_cons_zero, List.set_cons_succ]); refine tree_one ?_; simp only [pickOps, List.getElem?_toArray, List.getElem?_cons_zero, List.getElem?_cons_succ]; (repeat (first | go_big_quiet_skip | (go_big_quiet_want; first | (go_big_quiet_op; first | go_big_quiet_on | ((first | with_reducible refine ⟨_, fun _ _ => rfl, ?_⟩); go_big_quiet_on)) | (simp (contextual := true) [go_sem, H8]; with_reducible refine ⟨_, fun _ _ => rfl, ?_⟩; go_big_quiet_on)))); refine wpQuiet_nil ?_
              have HQ8 := Lib.hid (RCut.of (wr := wr) HQ7.out HZ7.out (by rw [HGZ.out]; exact HQa.out.big) HOK.out (fun x hx => by have := HFR.out x hx; have := HQ5.out.big; omega) (.inr fun x hx => by have := HFR.out x hx; have := HS4.out; have := HS5.out; have := HGZ.out; omega))
              go_wp2_with (refine wpList_store_row rfl 28 _ _ rfl gZ (thArr u B4 d4) rfl rfl 28 _ HZ7.out HSZU.out (by rw [thArr_size B4 d4 HOK.out.regs]; rfl) (thArr_one u B4 d4) ?_)
              refine ⟨(S10 w.heap.size g gI (.slice A fs.length c) (thArr d.th B cb) #[.int .i64 op, .int .i64 (a : Int), .int .i64 ib, .int .i64 ic, .int .i64 inn]), HQ8.out.q.s10 H8.out, fun _ h => h, ?_⟩
              (try simp only [Act.put]); refine tree_fin ?_; simp only [pickOps, List.getElem?_toArray, List.getElem?_cons_zero, List.getElem?_cons_succ]; (repeat (first | go_big_quiet_skip | (go_big_quiet_want; first | (go_big_quiet_op; first | go_big_quiet_on | ((first | with_reducible refine ⟨_, fun _ _ => rfl, ?_⟩); go_big_quiet_on)) | (simp (contextual := true) [go_sem, H8]; with_reducible refine ⟨_, fun _ _ => rfl, ?_⟩; go_big_quiet_on)))); refine wpQuiet_nil ?_
              go_wp2_with fail
              go_meet
              case rel => exact ⟨_, _, _, rfl, rfl, rfl, HQ8⟩
          case rest =>
            obtain ⟨gT, B4, d4, rfl, rfl, rfl, HRC⟩ := hcut
            have HRT := Lib.hid HRC.out.th
            have HRG := Lib.hid HRC.out.q.res
            have HRK8 := Lib.hid HRC.out.ok.regs
            have HSZU := Lib.hid (show (Tryd.prog.info? 28).map (·.size) = some (thArr u B4 d4).size by rw [thArr_size B4 d4 HRC.out.ok.regs]; exact Tryd.infoTh)
            have hw6 : ∃ w6 : World, Hid (w6 = wc.setRow g (splice (resArr d E ce B cb) 2 (thArr u B4 d4))) := ⟨_, rfl⟩
            obtain ⟨w6, HW6⟩ := hw6
            have HB6 := Lib.hid (show Blk w6 g 52 (resArr { d with th := u } E ce B4 d4) by rw [HW6.out]; have := HRG.out.setRow (splice (resArr d E ce B cb) 2 (thArr u B4 d4)); rw [splice_res E ce B B4 cb d4 u H8.out HRK8.out] at this ⊢; exact this)
            have p1 := (HB6.out.cell 1).trans (resArr_1 { d with th := u } E ce B4 d4)
            have pf1 := HB6.out.frozen 1
            have hgl6 : g < w6.heap.size := HB6.out.lt
            have HSTP := Lib.hid (HRC.out.put H8.out)
            rw [← HW6.out] at HSTP
            have hs0 : 0 ≤ d.steps := by rw [HIV.out.steps]; omega
            have hs1 : d.steps ≤ 70000 := by rw [HIV.out.steps]; omega
            have hfinal : ∀ (w2 : World) (d' : Wd) (E' : Option Addr) (ce' : Nat), RDone w wr w2 fs A c g gw k (gI + 1) d' E' ce' B4 d4 → doneA { d with token := tok, th := u } op nn = d' →
                (∃ (k' : Nat) (d'' : Wd) (E'' : Option Addr) (ce'' : Nat) (B'' : Option Addr) (cb'' : Nat), k' ≤ n ∧ Hid (runA fs (n - k') d'' = runA fs n wd0) ∧ Hid (RRInv w w2 fs A c g gw k' d'' E'' ce'' B'' cb'')) ∧ n - (intOf ((w2.cell? ⟨g, 1, none⟩).getD undef)).toNat < n - (intOf ((wr.cell? ⟨g, 1, none⟩).getD undef)).toNat := by
              intro w2 d' E' ce' hd he
              have hth : d'.th = u := by rw [← he, doneA_th]
              have hinv := hd.inv (by rw [hth]; exact HFU.out) hl1 hl2 (by omega)
              refine ⟨⟨k + 1, d', E', ce', B4, d4, by omega, ?_, hinv⟩, ?_⟩
              · show runA fs (n - (k + 1)) d' = _
                have e1 : n - k = (n - (k + 1)) + 1 := by omega
                rw [← HRA.out, e1]
                show _ = (if d.th.done = true ∨ d.stuck = true then d else runA fs (n - (k + 1)) (stepA fs d))
                rw [if_neg (by rw [HDN.out, HSK.out]; decide)]
                have e2 : stepA fs d = doneA { d with token := tok, th := u } op nn := by
                  unfold stepA
                  simp only [HEI.out]
                  have e3 : ansA d op (regOf d.th (a : Int)) = (ans, tok) := by
                    show ansA d op (d.th.regs.getD a 0) = _
                    rw [HRV.out]
                    exact HX.out
                  simp only [e3, HST.out]
                rw [e2, he]
              · have c1 := (hinv.blk.cell 1).trans (resArr_1 d' E' ce' B4 d4)
                have c2 := (HIV.out.blk.cell 1).trans (resArr_1 d E ce B cb)
                rw [c1, c2, hinv.steps, HIV.out.steps]
                simp only [Option.getD_some, intOf]
                omega
            have HFINAL := Lib.hid hfinal
            clear hfinal
            have hneg : ob E = none ∨ ob E ≠ some g := HSTP.out.q.own.ne_lt (by omega)
            have hnegw : ob E = none ∨ ob E ≠ some gw := HSTP.out.q.own.ne_lt (by omega)
            have HNEG := Lib.hid hneg
            have HNEGW := Lib.hid hnegw
            have HI6 := Lib.hid (show Blk w6 gI 32 #[.int .i64 op, .int .i64 (a : Int), .int .i64 ib, .int .i64 ic, .int .i64 inn] by rw [HW6.out]; exact HRC.out.q.ins.farRow (by omega) _)
            have HD6 := Lib.hid (show Blk w6 gw 76 #[.bool d.stopped, .bool tok] by rw [HW6.out]; exact HRC.out.q.wld.farRow (by omega) _)
            have j0 := HI6.out.cell 0
            have y0 := HD6.out.cell 0
            have y1 := HD6.out.cell 1
            simp only [List.getElem?_toArray, List.getElem?_cons_zero, List.getElem?_cons_succ] at j0 y0 y1
            have yf0 := HD6.out.frozen 0
            have yf1 := HD6.out.frozen 1
            have hwl6 : gw < w6.heap.size := HD6.out.lt
            have p0 := (HB6.out.cell 0).trans (resArr_0 { d with th := u } E ce B4 d4)
            have pf0 := HB6.out.frozen 0
            have pf14 := HB6.out.frozen 14
            have p14 := (HB6.out.cell 14).trans (resArr_14 (d := { d with th := u }) E ce B4 d4 HRK8.out)
            have n1 : gI ≠ g := by omega
            have n2 : g ≠ gI := by omega
            have n3 : gw ≠ g := by omega
            have n4 : g ≠ gw := by omega
            have n5 : gI ≠ gw := by omega
            have n6 : gw ≠ gI := by omega
            have HN := Lib.hid (show g ≠ gw ∧ gw ≠ g from ⟨n4, n3⟩)
            have hbg : w.heap.size ≤ g := by omega
            have HBG := Lib.hid (show w.heap.size ≤ g ∧ w.heap.size ≤ gw ∧ k < n from ⟨by omega, by omega, hlt⟩)
            have HSTEP1 := Lib.hid (show d.steps + 1 = (k : Int) + 1 by rw [HIV.out.steps])
            have HSM := Lib.hid (show d.emits.length ≤ k + 1 from by have := HIV.out.small; omega)
            clear hl1 hl2 hl3 hl4 F0 F1 F2 LI LT hneg hnegw hbg
            by_cases h15 : op = 15
            · have HD := Lib.hid (show doneA { d with token := tok, th := u } op nn = { d with token := tok, th := u, steps := d.steps + 1, emits := d.emits ++ [nn] } by unfold doneA; simp only; rw [if_pos h15])
              subst h15
              obtain ⟨i0, hi, hz0, hz1, hz2⟩ := info_parts Tryd.infoI2
              have HI := Lib.hid hi
              have HZ0 := Lib.hid hz0
              have HZ1 := Lib.hid hz1
              have HZ2 := Lib.hid hz2
              have hw7 : ∃ w7 : World, Hid (w7 = w6.setCell ⟨g, 1, none⟩ (.int .i64 (d.steps + 1))) := ⟨_, rfl⟩
              obtain ⟨w7, HW7⟩ := hw7
              rw [← HW7.out] at HSTP
              have hs7 : w7.heap.size = w6.heap.size := by rw [HW7.out]; simp [World.setCell]
              have HS7 := Lib.hid hs7
              have htw := oneint2 w7 nn 2
              rw [hs7] at htw
              have HTW := Lib.hid htw
              have HOW := Lib.hid (HSTP.out.q.own.alloc (.cells #[.int .i64 nn] 2))
              have HBW := Lib.hid (HSTP.out.q.res.alloc (.cells #[.int .i64 nn] 2))
              have HLG := Lib.hid HSTP.out.q.res.lt
              have HLGW := Lib.hid HSTP.out.q.wld.lt
              have c1 : Hid (d.emits.length + 1 ≤ maxLen) := by unfold maxLen; have := HSM.out; have := HBG.out.2.2; show _ ≤ _; omega
              have hel : d.emits.length ≤ 70000 := by have := HSM.out; have := HBG.out.2.2; omega
              clear hi hz0 hz1 hz2 htw hs7
              go_wp2_with (first | (refine wpList_load_rowW (by rfl) 28 _ rfl gT rfl 28 (thArr u B4 d4) (0, 0) _ HRT.out Tryd.underlying28 rfl HSZU.out ?_) | (refine wpList_store_sub rfl 28 _ _ rfl g 2 (thArr u B4 d4) rfl rfl 52 _ HRG.out HSZU.out (by rw [thArr_size B4 d4 HRK8.out, resArr_size E ce B cb H8.out]; decide) (thArr_one u B4 d4) ?_; rw [← HW6.out]) | (at_builtin; (try rw [← HW7.out]); go_must (refine wpList_append_1 _ rfl _ _ 42 rfl (gw + 1) 2 i0 _ 1 8 Tryd.underlying42 HI.out HZ0.out HZ1.out HZ2.out rfl (by decide) _ _ _ _ rfl HOW.out ⟨w6.heap.size, 0, none⟩ 1 [.int .i64 nn] rfl rfl HTW.out (by simp [Value.oneCell']) c1.out (by omega) (by rw [World.size_alloc]; have := HLGW.out; have := HS7.out; omega) ?_); intro E' ce' w8 hown1 hgrow1 hat1; have hB8 := HBW.out.grown hgrow1 (fun e => by rcases HNEG.out with h | h; (rw [h] at e; cases e); exact h e.symm); have u0 := (hB8.cell 0).trans (resArr_0 _ _ _ _ _); have v0 := hB8.frozen 0; have l0 := hB8.lt))
              have hneE : ob E' = none ∨ ob E' ≠ some g := by
                rcases hat1 with h | h
                · rw [h]; exact HNEG.out
                · right
                  intro h2
                  rw [h] at h2
                  injection h2 with h2
                  rw [World.size_alloc] at h2
                  have := HLG.out
                  omega
              have hlen : (d.emits ++ [nn]).length = d.emits.length + 1 := by simp
              refine HFINAL.out _ { d with token := tok, th := u, steps := d.steps + 1, emits := d.emits ++ [nn] } E' ce' ?_ HD.out
              have hwb : w.heap.size ≤ w7.heap.size := HSTP.out.q.bel.size
              refine RStp.done wr HSTP.out rfl HSTEP1.out (by show (d.emits ++ [nn]).length ≤ _; rw [hlen]; have := HIV.out.small; omega) ?_ (((HSTP.out.q.wld.alloc _).grown hgrow1 (fun e => by rcases HNEGW.out with h | h; (rw [h] at e; cases e); exact h e.symm)).far (p := ⟨g, 0, none⟩) HN.out.2 _) ?_ ?_ ?_ ?_ ?_
              · have := hB8.set_ 0 (.slice E' (d.emits.length + 1) ce')
                rw [← hlen, resArr_set0, hlen] at this
                exact this
              · show Own _ (gw + 1) 2 1 E' (d.emits ++ [nn]).length ce' (ints (d.emits ++ [nn]))
                rw [hlen, show ints (d.emits ++ [nn]) = ints d.emits ++ [.int .i64 nn] by simp [ints]]
                exact hown1.setCell ⟨g, 0, none⟩ _ hneE
              · rcases hat1 with h | h
                · exact .inl h
                · exact .inr ⟨_, h, by rw [World.size_alloc]; omega⟩
              · intro x hx h1 h2 h3
                exact (Below.heap_setCell w8 ⟨g, 0, none⟩ _ x h1).trans ((hgrow1.block x (by rw [World.size_alloc]; omega) h3).trans (Below.heap_alloc w7 _ x hx))
              · have z1 := hgrow1.size
                rw [World.size_alloc] at z1
                have z2 := (grown_set w8 ⟨g, 0, none⟩ (.slice E' (d.emits.length + 1) ce')).size
                omega
              · exact (((Below.refl w.heap.size w7).alloc hwb _).grown hgrow1 (by rw [World.size_alloc]; omega) (fun x hx => by have := (HSTP.out.q.own.lt x hx).1; have := HBG.out.2.1; omega)).setCell (p := ⟨g, 0, none⟩) HBG.out.1 _
            by_cases h17 : op = 17
            · have HD := Lib.hid (show doneA { d with token := tok, th := u } op nn = { d with token := tok, th := u, steps := d.steps + 1, stopped := true } by unfold doneA; simp only; rw [if_neg h15, if_pos h17])
              have HXX := Lib.hid (HSTP.out.q.wld.set_ 0 (.bool true))
              rw [rwArr_set0] at HXX
              subst h17
              clear h15
              go_wp2_with (first | (refine wpList_load_rowW (by rfl) 28 _ rfl gT rfl 28 (thArr u B4 d4) (0, 0) _ HRT.out Tryd.underlying28 rfl HSZU.out ?_) | (refine wpList_store_sub rfl 28 _ _ rfl g 2 (thArr u B4 d4) rfl rfl 52 _ HRG.out HSZU.out (by rw [thArr_size B4 d4 HRK8.out, resArr_size E ce B cb H8.out]; decide) (thArr_one u B4 d4) ?_; rw [← HW6.out]))
              refine HFINAL.out _ _ E ce ?_ HD.out
              exact RStp.done wr HSTP.out rfl HSTEP1.out HSM.out (HSTP.out.q.res.far (p := ⟨gw, 0, none⟩) HN.out.1 _) HXX.out (HSTP.out.q.own.setCell ⟨gw, 0, none⟩ _ HNEGW.out) (.inl rfl) (fun x _ _ h2 _ => Below.heap_setCell _ ⟨gw, 0, none⟩ _ x h2) (grown_set _ ⟨gw, 0, none⟩ _).size ((Below.refl _ _).setCell (p := ⟨gw, 0, none⟩) HBG.out.2.1 _)
            by_cases h18 : op = 18
            · have HD := Lib.hid (show doneA { d with token := tok, th := u } op nn = { d with token := tok, th := u, steps := d.steps + 1, stopped := false } by unfold doneA; simp only; rw [if_neg h15, if_neg h17, if_pos h18])
              have HXX := Lib.hid (HSTP.out.q.wld.set_ 0 (.bool false))
              rw [rwArr_set0] at HXX
              subst h18
              clear h15 h17
              go_wp2_with (first | (refine wpList_load_rowW (by rfl) 28 _ rfl gT rfl 28 (thArr u B4 d4) (0, 0) _ HRT.out Tryd.underlying28 rfl HSZU.out ?_) | (refine wpList_store_sub rfl 28 _ _ rfl g 2 (thArr u B4 d4) rfl rfl 52 _ HRG.out HSZU.out (by rw [thArr_size B4 d4 HRK8.out, resArr_size E ce B cb H8.out]; decide) (thArr_one u B4 d4) ?_; rw [← HW6.out]))
              refine HFINAL.out _ _ E ce ?_ HD.out
              exact RStp.done wr HSTP.out rfl HSTEP1.out HSM.out (HSTP.out.q.res.far (p := ⟨gw, 0, none⟩) HN.out.1 _) HXX.out (HSTP.out.q.own.setCell ⟨gw, 0, none⟩ _ HNEGW.out) (.inl rfl) (fun x _ _ h2 _ => Below.heap_setCell _ ⟨gw, 0, none⟩ _ x h2) (grown_set _ ⟨gw, 0, none⟩ _).size ((Below.refl _ _).setCell (p := ⟨gw, 0, none⟩) HBG.out.2.1 _)
            by_cases h12 : op = 12
            · cases hst : d.stopped with
              | true =>
                have HD := Lib.hid (show doneA { d with token := tok, th := u } op nn = { d with token := tok, th := u, steps := d.steps + 1 } by unfold doneA; simp only; rw [if_neg h15, if_neg h17, if_neg h18, if_pos h12, if_pos hst])
                subst h12
                rw [hst] at y0
                clear h15 h17 h18 hst
                go_wp2_with (first | (refine wpList_load_rowW (by rfl) 28 _ rfl gT rfl 28 (thArr u B4 d4) (0, 0) _ HRT.out Tryd.underlying28 rfl HSZU.out ?_) | (refine wpList_store_sub rfl 28 _ _ rfl g 2 (thArr u B4 d4) rfl rfl 52 _ HRG.out HSZU.out (by rw [thArr_size B4 d4 HRK8.out, resArr_size E ce B cb H8.out]; decide) (thArr_one u B4 d4) ?_; rw [← HW6.out]))
                refine HFINAL.out _ _ E ce ?_ HD.out
                exact RStp.done wr HSTP.out rfl HSTEP1.out HSM.out HSTP.out.q.res HSTP.out.q.wld HSTP.out.q.own (.inl rfl) (fun x _ _ _ _ => rfl) (Nat.le_refl _) (Below.refl _ _)
              | false =>
                have HD := Lib.hid (show doneA { d with token := tok, th := u } op nn = { d with token := false, th := u, steps := d.steps + 1, stuck := !tok } by unfold doneA; simp only; rw [if_neg h15, if_neg h17, if_neg h18, if_pos h12, if_neg (by rw [hst]; decide)])
                have HXX := Lib.hid (((HSTP.out.q.wld.far (p := ⟨g, 14, none⟩) HN.out.2 (.bool (!tok))).set_ 1 (.bool false)))
                rw [rwArr_set1] at HXX
                have HY := Lib.hid ((HSTP.out.q.res.set_ 14 (.bool (!tok))).far (p := ⟨gw, 1, none⟩) HN.out.1 (.bool false))
                rw [resArr_stuck (d := { d with token := tok, th := u, steps := d.steps + 1 }) E ce B4 d4 HRK8.out] at HY
                subst h12
                rw [hst] at y0
                clear h15 h17 h18 hst
                go_wp2_with (first | (refine wpList_load_rowW (by rfl) 28 _ rfl gT rfl 28 (thArr u B4 d4) (0, 0) _ HRT.out Tryd.underlying28 rfl HSZU.out ?_) | (refine wpList_store_sub rfl 28 _ _ rfl g 2 (thArr u B4 d4) rfl rfl 52 _ HRG.out HSZU.out (by rw [thArr_size B4 d4 HRK8.out, resArr_size E ce B cb H8.out]; decide) (thArr_one u B4 d4) ?_; rw [← HW6.out]))
                refine HFINAL.out _ _ E ce ?_ HD.out
                exact RStp.done wr HSTP.out rfl HSTEP1.out HSM.out HY.out HXX.out ((HSTP.out.q.own.setCell ⟨g, 14, none⟩ _ HNEG.out).setCell ⟨gw, 1, none⟩ _ HNEGW.out) (.inl rfl) (fun x _ h1 h2 _ => (Below.heap_setCell _ ⟨gw, 1, none⟩ _ x h2).trans (Below.heap_setCell _ ⟨g, 14, none⟩ _ x h1)) (Nat.le_trans (grown_set _ ⟨g, 14, none⟩ _).size (grown_set _ ⟨gw, 1, none⟩ _).size) (((Below.refl _ _).setCell (p := ⟨g, 14, none⟩) HBG.out.1 _).setCell (p := ⟨gw, 1, none⟩) HBG.out.2.1 _)
            · have HD := Lib.hid (show doneA { d with token := tok, th := u } op nn = { d with token := tok, th := u, steps := d.steps + 1 } by unfold doneA; simp only; rw [if_neg h15, if_neg h17, if_neg h18, if_neg h12])
              have d15 : (op == 15) = false := by simpa using h15
              have d17 : (op == 17) = false := by simpa using h17
              have d18 : (op == 18) = false := by simpa using h18
              have d12 : (op == 12) = false := by simpa using h12
              clear h15 h17 h18 h12
              go_wp2_with (first | (refine wpList_load_rowW (by rfl) 28 _ rfl gT rfl 28 (thArr u B4 d4) (0, 0) _ HRT.out Tryd.underlying28 rfl HSZU.out ?_) | (refine wpList_store_sub rfl 28 _ _ rfl g 2 (thArr u B4 d4) rfl rfl 52 _ HRG.out HSZU.out (by rw [thArr_size B4 d4 HRK8.out, resArr_size E ce B cb H8.out]; decide) (thArr_one u B4 d4) ?_; rw [← HW6.out]))
              refine HFINAL.out _ _ E ce ?_ HD.out
              exact RStp.done wr HSTP.out rfl HSTEP1.out HSM.out HSTP.out.q.res HSTP.out.q.wld HSTP.out.q.own (.inl rfl) (fun x _ _ _ _ => rfl) (Nat.le_refl _) (Below.refl _ _)
    · have hkn : k = n := by omega
      have HEND := Lib.hid (show runA fs (n - k) d = d by rw [hkn, Nat.sub_self]; rfl)
      clear h8
      obtain ⟨old, hold, hosz⟩ := HIV.out.res
      have HOLD := Lib.hid hold
      have HOSZ := Lib.hid hosz
      clear hold hosz
      go_wp2_with (first | (refine wpList_load_rowW (by rfl) 52 _ rfl g rfl 52 (resArr d E ce B cb) (0, 0) _ HIV.out.blk Tryd.underlying52 rfl HSZR.out ?_) | (refine wpList_store_row rfl 52 _ _ rfl (w.heap.size + 1) (resArr d E ce B cb) rfl rfl 52 _ HOLD.out HSZR.out (by rw [resArr_size E ce B cb H8.out, HOSZ.out]) (resArr_one E ce B cb) ?_))
      refine bodyPost_ret (results_cell2 Tryd.results25 _ _ (w.heap.size + 1) 52 (resArr d E ce B cb) (0, 0) _ rfl (HOLD.out.setRow _) Tryd.underlying52 rfl HSZR.out) rfl ?_
      rw [← HRA.out, HEND.out]
      exact HIV.out.fin
end Go.Proofs.YtoacnphgkgklcaaDoor

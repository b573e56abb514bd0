/-
  Chapter 27: the walk of ModelDoes. Conditions: the table is laid, the program and the events lie in memory.
-/
import Derived.Test.YtkfpnppppmccdaaDoorBot27
import Derived.Test.YtkfpnppppmccdaaDoorOpn27
namespace Go.Proofs.YtkfpnppppmccdaaDoor
open Go.RowKit
/-- Both models lie side by side, whatever they are. -/
def DoeI (w : World) (gm qm : Nat) (F : Option Addr) (fc : Nat) (fs : List Fn) (g : Int) (wr : World) : Prop :=
  ∃ M ps L c Bs A c2 rs, DI w wr gm qm F fc fs M ps L c Bs A c2 rs ∧ M.gs = g
set_option maxRecDepth 10000 in
set_option maxHeartbeats 8000000 in
theorem does27 {w : World} {F EA : Option Addr} {fc ec : Nat} {fs : List Fn} (hT : Tab w) (hf : FnsOk w w.heap.size F fs) (hfl : fs.length ≤ maxLen) (p g q : Int) (evs : List Ev) (n : Nat) (hn : evs.length = n) (hn2 : n ≤ maxLen) (hev : Row w w.heap.size EA (evs.flatMap evVals)) :
    Calls Tryd.prog 5 #[.agg #[.slice F fs.length fc], .agg #[.int .i64 p, .int .i64 g, .int .i64 q], .slice EA n ec] w fun r w' => r = .returned (.bool true) ∧ Below w.heap.size w w' := by
  obtain ⟨W, HW⟩ : ∃ W, Hid (W = (w.alloc (.cells #[.slice F fs.length fc] 24)).alloc (.cells #[.int .i64 p, .int .i64 g, .int .i64 q] 26)) := ⟨_, Lib.hid rfl⟩
  obtain ⟨gp, HGP⟩ : ∃ q, Hid (q = w.heap.size) := ⟨_, Lib.hid rfl⟩
  obtain ⟨gc, HGC⟩ : ∃ q, Hid (q = gp + 1) := ⟨_, Lib.hid rfl⟩
  have HBW := Lib.hid (show Below w.heap.size w W by rw [HW.out]; exact below2 w _ _)
  have HP := Lib.hid (show Blk W gp 24 #[.slice F fs.length fc] by rw [HW.out, HGP.out]; exact (Blk.new w _ _).alloc _)
  have HC := Lib.hid (show Blk W gc 26 #[.int .i64 p, .int .i64 g, .int .i64 q] by rw [HW.out, HGC.out, HGP.out]; exact heap_alloc2_new w _ _)
  have HF := Lib.hid hf
  have HFL := Lib.hid hfl
  have HT := Lib.hid hT
  have HN := Lib.hid hn
  have HEV := Lib.hid hev
  have HM0 := Lib.hid (show 0 < w.heap.size by obtain ⟨t, fr, h⟩ := hT; exact (Array.getElem?_eq_some_iff.1 h).1)
  have PC := Lib.hid (show ∀ V, Below W.heap.size W V → V.cell? ⟨gp, 0, none⟩ = some (.slice F fs.length fc) ∧ V.cell? ⟨gc, 0, none⟩ = some (.int .i64 p) ∧ V.cell? ⟨gc, 1, none⟩ = some (.int .i64 g) ∧ V.cell? ⟨gc, 2, none⟩ = some (.int .i64 q) from fun V h => ⟨((HP.out.below h HP.out.lt).cell 0).trans rfl, ((HC.out.below h HC.out.lt).cell 0).trans rfl, ((HC.out.below h HC.out.lt).cell 1).trans rfl, ((HC.out.below h HC.out.lt).cell 2).trans rfl⟩)
  have HLT := Lib.hid (light_any F fc fs W hfl ((hf.below HBW.out).more HBW.out.size))
  have hw := HW.out
  have hgp := HGP.out
  have hgc := HGC.out
  unfold maxLen at hn2
  have hn3 : n < 2 ^ 63 := by omega
  clear hT hf hfl hn hev
  obtain ⟨lt, HLE⟩ : ∃ x, Hid (x = lightP fs) := ⟨_, Lib.hid rfl⟩
  rw [← HLE.out] at HLT
  by_cases hgo : lt = true ∧ n ≤ 100
  · obtain ⟨rfl, hn100⟩ := hgo
    have e200 : decide (100 < n) = false := decide_eq_false (by omega)
    have e201 : decide ((100 : Int) < (n : Int)) = false := decide_eq_false (by omega)
    go_enter Tryd.func5, Tryd.ntmps5
    go_wp2_with fail
    rw [← hw, ← hgp]
    simp only [← hgc]
    clear hw hgp hgc
    refine HLT.out.mono ?_
    rintro e W1 ⟨rfl, hb1⟩
    have HB1 := Lib.hid (show SB27 W W1 from hb1)
    obtain ⟨p0, c0, c1, c2⟩ := PC.out W1 hb1
    clear hb1
    go_wp2_with fail
    refine (new27_any (m := w.heap.size) (F := F) (fc := fc) (fs := fs) ((HT.out.step HBW.out).step HB1.out) (Nat.le_trans HBW.out.size (Below.size HB1.out)) (HF.out.below (HBW.out.trans (Below.mono HB1.out HBW.out.size))) HFL.out p g q).mono ?_
    clear p0 c0 c1 c2
    rintro e W2 ⟨hb2, ⟨hne, rfl⟩ | ⟨h0, gm, pg, L, rfl, hM, hg1, hg2, hg3⟩⟩
    · have HB2 := Lib.hid (show SB27 W W2 from Below.trans HB1.out (hb2.mono (Below.size HB1.out)))
      obtain ⟨p0, c0, c1, c2⟩ := PC.out W2 HB2.out
      have HNW := Lib.hid (rnew27_any (w := W2) (F := F) (fc := fc) (fs := fs) (HF.out.step (HBW.out.trans (Below.mono HB2.out HBW.out.size))) HFL.out p g q)
      obtain ⟨nf, HNF⟩ : ∃ x, Hid (x = newF fs p g q) := ⟨_, Lib.hid rfl⟩
      unfold RNewOut at HNW
      rw [← HNF.out] at hne HNW ⊢
      have en : (nf != 0) = true := by simpa using hne
      have en2 : (nf == 0) = false := by simpa using hne
      have HNE := Lib.hid hne
      clear hb2 hne
      go_wp2_with fail
      refine HNW.out.mono ?_
      rintro e W3 ⟨hb3, ⟨-, rfl⟩ | ⟨h0, -⟩⟩
      · have HB3 := Lib.hid (show SB27 W W3 from Below.trans HB2.out (hb3.mono (Below.size HB2.out)))
        clear hb3 p0 c0 c1 c2
        go_upto_region 5 with (refine wpList_store_row rfl 47 _ _ rfl (W3.heap.size) (MV none 0 0 0 none 0 0 0 0) rfl rfl 47 _ (Blk.new W3 _ _) (mv_info _ _ _ _ _ _ _ _ _) (mv_size _ _ _ _ _ _ _ _ _).symm (mv_one _ _ _ _ _ _ _ _ _) ?_)
        obtain ⟨W4, HW4⟩ : ∃ X, Hid (X = (W3.alloc (.cells #[.slice none 0 0, .int .i64 0, .slice none 0 0, .int .i64 0, .int .i64 0] 47)).setRow W3.heap.size (MV none 0 0 0 none 0 0 0 0)) := ⟨_, Lib.hid rfl⟩
        have HB4 := Lib.hid (show SB27 W W4 by rw [HW4.out]; exact below_setRow (Below.alloc HB3.out (Below.size HB3.out) _) (Below.size HB3.out) (Below.size (Below.alloc HB3.out (Below.size HB3.out) _)) _)
        rw [← HW4.out]
        go_wp2_with (first | (go_at_call 8; refine (alive27 W4 ((HT.out.step HBW.out).step HB4.out)).mono ?_; rintro e W5 ⟨rfl, hb5⟩; have HB5 := Lib.hid (show SB27 W W5 from Below.trans HB4.out (hb5.mono (Below.size HB4.out))); clear hb5))
        go_ret
        exact ⟨rfl, HBW.out.trans (Below.mono HB5.out HBW.out.size)⟩
      · exact absurd h0 HNE.out
    · have HB2 := Lib.hid (show SB27 W W2 from Below.trans HB1.out (hb2.mono (Below.size HB1.out)))
      obtain ⟨p0, c0, c1, c2⟩ := PC.out W2 HB2.out
      have HNW := Lib.hid (rnew27_any (w := W2) (F := F) (fc := fc) (fs := fs) (HF.out.step (HBW.out.trans (Below.mono HB2.out HBW.out.size))) HFL.out p g q)
      have HG := Lib.hid (newF_gs h0).2
      have HH0 := Lib.hid h0
      have HMN := Lib.hid hM
      clear hb2 h0 hM hg1 hg2 hg3
      go_wp2_with fail
      refine HNW.out.mono ?_
      rintro e W3 ⟨hb3, ⟨hne, -⟩ | ⟨-, A0, c00, rs0, rfl, hR0, hlen, hA0⟩⟩
      · exact absurd HH0.out hne
      · have HB3 := Lib.hid (show SB27 W W3 from Below.trans HB2.out (hb3.mono (Below.size HB2.out)))
        have HB23 := Lib.hid hb3
        have HR0 := Lib.hid hR0
        have HLEN := Lib.hid hlen
        have HA0 := Lib.hid hA0
        clear hb3 p0 c0 c1 c2 hR0 hlen hA0
        go_upto_region 5 with (refine wpList_store_row rfl 47 _ _ rfl (W3.heap.size) (MV F fs.length fc g A0 1 c00 0 0) rfl rfl 47 _ (Blk.new W3 _ _) (mv_info _ _ _ _ _ _ _ _ _) (mv_size _ _ _ _ _ _ _ _ _).symm (mv_one _ _ _ _ _ _ _ _ _) ?_)
        obtain ⟨V0, HV0⟩ : ∃ X, Hid (X = (W3.alloc (.cells #[.slice none 0 0, .int .i64 0, .slice none 0 0, .int .i64 0, .int .i64 0] 47)).setRow W3.heap.size (MV F fs.length fc g A0 1 c00 0 0)) := ⟨_, Lib.hid rfl⟩
        obtain ⟨qm, HQM⟩ : ∃ x, Hid (x = W3.heap.size) := ⟨_, Lib.hid rfl⟩
        have HCI := Lib.hid (show DoeI w gm qm F fc fs g V0 by
          have hbv : Below W3.heap.size W3 V0 := by rw [HV0.out]; exact below_setRow ((Below.refl _ W3).alloc (Nat.le_refl _) _) (Nat.le_refl _) (by rw [World.size_alloc]; omega) _
          refine ⟨md0 g, _, _, _, _, A0, c00, rs0, di_new (HBW.out.trans (Below.mono HB3.out HBW.out.size)) HMN.out HB23.out (Nat.le_trans HBW.out.size (Below.size HB2.out)) HR0.out HA0.out hbv (by rw [HQM.out]; exact Nat.le_refl _) ?_, rfl⟩
          rw [HLEN.out, HV0.out, HQM.out]
          exact (Blk.new W3 _ _).setRow _)
        rw [← HV0.out, ← HQM.out]
        clear HR0 HMN HNW HH0
        go_wp2_with fail
        go_loopw [11] (fun vi wr => ∃ k : Nat, k ≤ n ∧ vi = .int .i64 k ∧ Hid (DoeI w gm qm F fc fs g wr)) (fun vi _ => n - (intOf vi).toNat)
        case atStart => exact ⟨0, Nat.zero_le _, rfl, HCI⟩
        case round =>
          clear HCI
          obtain ⟨k, hk, rfl, HC⟩ := hrel
          by_cases hlt : k < n
          · obtain ⟨M, ps, L, c, Bs, A, c2, rs, hD, hgs⟩ := HC.out
            have HKL := Lib.hid (show k < evs.length by have := HN.out; omega)
            have HD := Lib.hid hD
            have HBR := Lib.hid hD.bx.bel
            have HTW := Lib.hid (HT.out.step HBR.out)
            obtain ⟨b, off, rfl, hbl, hvc⟩ := ev_at ((HEV.out.below HBR.out).more HBR.out.size) HKL.out
            have HBL := Lib.hid hbl
            have HGS := Lib.hid hgs
            obtain ⟨ev, HEVK⟩ : ∃ e, Hid (e = evs[k]'HKL.out) := ⟨_, Lib.hid rfl⟩
            rw [← HEVK.out] at hvc
            have HVC := Lib.hid hvc
            have LM : ∀ w', SB27 wr w' → (loadVar 47 ⟨qm, 0, none⟩).run Tryd.prog w' = .ok (.agg (MV F fs.length fc M.gs A rs.length c2 M.holder M.owner)) w' := fun w' h => run_loadVar_cells w' qm 0 _ _ _ (fun j v hv => by rw [Nat.zero_add]; exact (Blk.cell (HD.out.bx.blk.below h HD.out.bx.blk.lt) j).trans hv) Tryd.underlying47 rfl (mv_info _ _ _ _ _ _ _ _ _)
            have LE : ∀ w', SB27 wr w' → (loadVar 43 ⟨b, off + k * 5, none⟩).run Tryd.prog w' = .ok (.agg (evArr ev)) w' := fun w' h => run_loadVar_cells w' b (off + k * 5) _ _ _ (fun j v hv => (Below.cell (p := ⟨b, off + k * 5 + j, none⟩) h HBL.out).trans (HVC.out j v hv)) Tryd.underlying43 rfl (Tryd.infoEv5 _ _ _ _ _)
            have HDO := Lib.hid (fun (V : World) (hV : Below wr.heap.size wr V) => (rdo_any27 (c := c2) (fc := fc) (HD.out.bx.ris.step hV) rfl (by rw [HGS.out]; have := HG.out; omega) ev))
            have HDM := Lib.hid (fun (V : World) (hV : Below wr.heap.size wr V) => do27_any (HD.out.md.step hV HBR.out.size) (Nat.le_trans HBR.out.size hV.size) (HTW.out.step hV) HM0.out (by rw [HGS.out]; have := HG.out; omega) ev)
            have HDG := Lib.hid (doP_gs fs M ev)
            have HDN := Lib.hid (doP_none (fs := fs) (M := M) (e := ev))
            obtain ⟨⟨M2, bo⟩, HDR⟩ : ∃ r, Hid (r = doP fs M ev) := ⟨_, Lib.hid rfl⟩
            rw [← HDR.out] at HDO HDM HDG HDN
            simp only at HDM HDG HDN
            have HVD := Lib.hid (show SB27 wr wr.drew from (Below.refl _ wr).drew)
            clear hD hgs hbl hvc
            go_upto_region 12 with (fail)
            refine region_tree (SB27 wr) (.two [0, 1, 2, 3, 4] 5 (.one [6, 7, 8] 9 (.one [] 10 (.fin [11]))) 9 (.one [] 5 (.one [6, 7, 8] 10 (.fin [11])))) (by kernel_rfl) (by kernel_rfl) (by kernel_rfl) (fun _ _ d _ _ h => by cases d <;> exact h) HVD.out ?_
            (try simp only [Act.put, List.setIfInBounds_toArray, List.set_cons_zero, List.set_cons_succ]); refine tree_two ?_; simp only [pickOps, List.getElem?_toArray, List.getElem?_cons_zero, List.getElem?_cons_succ]; (repeat (first | (refine quiet_load_at (by rfl) 47 _ rfl ⟨qm, 0, none⟩ rfl (MV F fs.length fc M.gs A rs.length c2 M.holder M.owner) LM ?_; simp only [Act.put, List.setIfInBounds_toArray, List.set_cons_zero, List.set_cons_succ]) | (refine quiet_load_at (by rfl) 43 _ rfl ⟨b, off + k * 5, none⟩ rfl (evArr ev) LE ?_; simp only [Act.put, List.setIfInBounds_toArray, List.set_cons_zero, List.set_cons_succ]) | go_big_quiet_skip | (go_big_quiet_want; first | (go_big_quiet_op; first | go_big_quiet_on | ((first | with_reducible refine ⟨_, fun _ _ => rfl, ?_⟩); go_big_quiet_on)) | (simp (contextual := true) [go_sem, HN]; with_reducible refine ⟨_, fun _ _ => rfl, ?_⟩; go_big_quiet_on)))); refine wpQuiet_nil ?_
            clear LM LE
            refine ⟨?_, ?_⟩
            · go_wp2_with (go_at_call 19; refine (HDO.out _ HVD.out).mono ?_; rintro e V3 ⟨A', c', rs', he, hb3, hr3, ho3, ha3⟩)
              have he' : e = .returned (.tuple #[.agg (MV F fs.length fc M2.gs A' rs'.length c' M2.holder M2.owner), .bool bo]) := he
              subst he'
              clear he
              have HB3 := Lib.hid (show SB27 wr V3 from Below.trans HVD.out (hb3.mono (Below.size HVD.out)))
              have HR3 := Lib.hid (show RIs V3 F fs M2 A' rs' from hr3)
              have HO3 := Lib.hid (show Old wr rs rs' from fun z hz hs b hb => (ho3 z hz hs b hb).imp id (fun h => Nat.le_trans (Below.size HVD.out) h))
              have HA3 := Lib.hid (show ∀ b, ob A' = some b → ob A = some b ∨ wr.heap.size ≤ b from fun b hb => (ha3 b hb).imp id (fun h => Nat.le_trans (Below.size HVD.out) h))
              clear hb3 hr3 ho3 ha3
              refine ⟨SB27 wr, HB3.out, fun _ h => h, ?_⟩
              (try simp only [Act.put, List.setIfInBounds_toArray, List.set_cons_zero, List.set_cons_succ]); refine tree_one ?_; simp only [pickOps, List.getElem?_toArray, List.getElem?_cons_zero, List.getElem?_cons_succ]; (repeat (first | go_big_quiet_skip | (go_big_quiet_want; first | (go_big_quiet_op; first | go_big_quiet_on | ((first | with_reducible refine ⟨_, fun _ _ => rfl, ?_⟩); go_big_quiet_on)) | (simp (contextual := true) [go_sem, HN]; with_reducible refine ⟨_, fun _ _ => rfl, ?_⟩; go_big_quiet_on)))); refine wpQuiet_nil ?_
              go_wp2_with fail
              refine ⟨SB27 wr, Below.alloc HB3.out (Below.size HB3.out) _, fun _ h => h, ?_⟩
              (try simp only [Act.put]); refine tree_one ?_; simp only [pickOps, List.getElem?_toArray, List.getElem?_cons_zero, List.getElem?_cons_succ]; (repeat (first | go_big_quiet_skip | (go_big_quiet_want; first | (go_big_quiet_op; first | go_big_quiet_on | ((first | with_reducible refine ⟨_, fun _ _ => rfl, ?_⟩); go_big_quiet_on)) | (simp (contextual := true) [go_sem, HN]; with_reducible refine ⟨_, fun _ _ => rfl, ?_⟩; go_big_quiet_on)))); refine wpQuiet_nil ?_
              go_wp2_with (refine wpList_store_row rfl 47 _ _ rfl (V3.heap.size) (MV F fs.length fc M2.gs A' rs'.length c' M2.holder M2.owner) rfl rfl 47 _ (Blk.new V3 _ _) (mv_info _ _ _ _ _ _ _ _ _) (mv_size _ _ _ _ _ _ _ _ _).symm (mv_one _ _ _ _ _ _ _ _ _) ?_)
              obtain ⟨Y, HY⟩ : ∃ X, Hid (X = (V3.alloc (.cells #[.slice none 0 0, .int .i64 0, .slice none 0 0, .int .i64 0, .int .i64 0] 47)).setRow V3.heap.size (MV F fs.length fc M2.gs A' rs'.length c' M2.holder M2.owner)) := ⟨_, Lib.hid rfl⟩
              obtain ⟨q9, HQ9⟩ : ∃ x, Hid (x = V3.heap.size) := ⟨_, Lib.hid rfl⟩
              have HBY := Lib.hid (show SB27 wr Y by rw [HY.out]; exact below_setRow (Below.alloc HB3.out (Below.size HB3.out) _) (Below.size HB3.out) (Below.size (Below.alloc HB3.out (Below.size HB3.out) _)) _)
              have HK9 := Lib.hid (show Blk Y q9 47 (MV F fs.length fc M2.gs A' rs'.length c' M2.holder M2.owner) by rw [HY.out, HQ9.out]; exact (Blk.new V3 _ _).setRow _)
              have HL9 := Lib.hid (show wr.heap.size ≤ q9 by rw [HQ9.out]; exact Below.size HB3.out)
              have HRY := Lib.hid (show RIs Y F fs M2 A' rs' from HR3.out.step (by rw [HY.out]; exact below_setRow ((Below.refl _ V3).alloc (Nat.le_refl _) _) (Nat.le_refl _) (by rw [World.size_alloc]; omega) _))
              rw [← HY.out, ← HQ9.out]
              refine ⟨SB27 wr, HBY.out, fun _ h => h, ?_⟩
              (try simp only [Act.put]); refine tree_fin ?_; simp only [pickOps, List.getElem?_toArray, List.getElem?_cons_zero, List.getElem?_cons_succ]; (repeat (first | go_big_quiet_skip | (go_big_quiet_want; first | (go_big_quiet_op; first | go_big_quiet_on | ((first | with_reducible refine ⟨_, fun _ _ => rfl, ?_⟩); go_big_quiet_on)) | (simp (contextual := true) [go_sem, HN]; with_reducible refine ⟨_, fun _ _ => rfl, ?_⟩; go_big_quiet_on)))); refine wpQuiet_nil ?_
              have HEC := Lib.hid (show ∀ j v, (evArr ev)[j]? = some v → Y.cell? ⟨b, off + k * 5 + j, none⟩ = some v from fun j v hv => (Below.cell (p := ⟨b, off + k * 5 + j, none⟩) HBY.out HBL.out).trans (HVC.out j v hv))
              have HDY := Lib.hid (HDM.out Y HBY.out)
              clear HDO HDM
              cases bo with
              | true =>
                simp only [if_true] at HDY
                go_wp2_with (first | (refine wpList_load_cellsW (by rfl) 43 _ rfl b (off + k * 5) rfl (evArr ev) _ HEC.out Tryd.underlying43 rfl (Tryd.infoEv5 _ _ _ _ _) ?_) | (go_at_call 15; refine HDY.out.mono ?_; rintro e Z ⟨rfl, hd⟩; obtain ⟨ps', L', c1', Bs', hM, hR, hwz, hk9, hkq, hnx⟩ := HD.out.step HF.out HBY.out HL9.out HK9.out HRY.out HO3.out HA3.out HDN.out hd; have HZ9 := Lib.hid hk9; have HZQ := Lib.hid hkq; have HNX := Lib.hid hnx; have HLK := Lib.hid (like27 (c2 := c') (fc2 := fc) hM hwz.size hR (by rw [HDG.out, HGS.out]; have := HG.out; omega) rs'.length rfl); clear hd hM hR hwz hk9 hkq hnx) | (refine wpList_load_cellsW (by rfl) 47 _ rfl q9 0 rfl (MV F fs.length fc M2.gs A' rs'.length c' M2.holder M2.owner) _ (fun j v hv => by rw [Nat.zero_add]; exact (Blk.cell HZ9.out j).trans hv) Tryd.underlying47 rfl (mv_info _ _ _ _ _ _ _ _ _) ?_) | (go_at_call 20; refine HLK.out.mono ?_; rintro e Z2 ⟨rfl, hz2⟩; have HD7 := Lib.hid (HNX.out Z2 hz2); have HK92 := Lib.hid (HZ9.out.below hz2 HZ9.out.lt); have HKQ2 := Lib.hid (HZQ.out.below hz2 HZQ.out.lt); clear hz2 HZ9 HZQ HNX HLK) | (refine wpList_load_row rfl 47 _ rfl (q9) rfl 47 (MV F fs.length fc M2.gs A' rs'.length c' M2.holder M2.owner) (0, 0) _ (HK92.out) Tryd.underlying47 rfl (mv_info _ _ _ _ _ _ _ _ _) ?_) | (refine wpList_store_row rfl 47 _ _ rfl (qm) (MV F fs.length fc M2.gs A' rs'.length c' M2.holder M2.owner) rfl rfl 47 _ (HKQ2.out) (mv_info _ _ _ _ _ _ _ _ _) (mv_size _ _ _ _ _ _ _ _ _).symm (mv_one _ _ _ _ _ _ _ _ _) ?_))
                go_roundw
                case rel => exact ⟨k + 1, by omega, by go_num, Lib.hid ⟨M2, _, _, _, _, A', c', rs', HD7.out, HDG.out.trans HGS.out⟩⟩
                case measure => simp [intOf]; omega
              | false =>
                simp only [Bool.false_eq_true, if_false] at HDY
                go_wp2_with (first | (refine wpList_load_cellsW (by rfl) 43 _ rfl b (off + k * 5) rfl (evArr ev) _ HEC.out Tryd.underlying43 rfl (Tryd.infoEv5 _ _ _ _ _) ?_) | (go_at_call 15; refine HDY.out.mono ?_; rintro e Z ⟨rfl, hd⟩; obtain ⟨ps', L', c1', Bs', hM, hR, hwz, hk9, hkq, hnx⟩ := HD.out.step HF.out HBY.out HL9.out HK9.out HRY.out HO3.out HA3.out HDN.out hd; have HZ9 := Lib.hid hk9; have HZQ := Lib.hid hkq; have HNX := Lib.hid hnx; have HLK := Lib.hid (like27 (c2 := c') (fc2 := fc) hM hwz.size hR (by rw [HDG.out, HGS.out]; have := HG.out; omega) rs'.length rfl); clear hd hM hR hwz hk9 hkq hnx) | (refine wpList_load_cellsW (by rfl) 47 _ rfl q9 0 rfl (MV F fs.length fc M2.gs A' rs'.length c' M2.holder M2.owner) _ (fun j v hv => by rw [Nat.zero_add]; exact (Blk.cell HZ9.out j).trans hv) Tryd.underlying47 rfl (mv_info _ _ _ _ _ _ _ _ _) ?_) | (go_at_call 20; refine HLK.out.mono ?_; rintro e Z2 ⟨rfl, hz2⟩; have HD7 := Lib.hid (HNX.out Z2 hz2); have HK92 := Lib.hid (HZ9.out.below hz2 HZ9.out.lt); have HKQ2 := Lib.hid (HZQ.out.below hz2 HZQ.out.lt); clear hz2 HZ9 HZQ HNX HLK) | (refine wpList_load_row rfl 47 _ rfl (q9) rfl 47 (MV F fs.length fc M2.gs A' rs'.length c' M2.holder M2.owner) (0, 0) _ (HK92.out) Tryd.underlying47 rfl (mv_info _ _ _ _ _ _ _ _ _) ?_) | (refine wpList_store_row rfl 47 _ _ rfl (qm) (MV F fs.length fc M2.gs A' rs'.length c' M2.holder M2.owner) rfl rfl 47 _ (HKQ2.out) (mv_info _ _ _ _ _ _ _ _ _) (mv_size _ _ _ _ _ _ _ _ _).symm (mv_one _ _ _ _ _ _ _ _ _) ?_))
                go_roundw
                case rel => exact ⟨k + 1, by omega, by go_num, Lib.hid ⟨M2, _, _, _, _, A', c', rs', HD7.out, HDG.out.trans HGS.out⟩⟩
                case measure => simp [intOf]; omega
            · go_wp2_with fail
              obtain ⟨v8, HV8⟩ : ∃ X, Hid (X = (wr.alloc (.cells #[.slice none 0 0, .int .i64 0, .slice none 0 0, .int .i64 0, .int .i64 0] 47)).drew) := ⟨_, Lib.hid rfl⟩
              obtain ⟨q9, HQ9⟩ : ∃ x, Hid (x = wr.heap.size) := ⟨_, Lib.hid rfl⟩
              have HBA := Lib.hid (show SB27 wr v8 by rw [HV8.out]; exact ((Below.refl wr.heap.size wr).alloc (Nat.le_refl _) _).drew)
              have HKA := Lib.hid (show Blk v8 q9 47 #[.slice none 0 0, .int .i64 0, .slice none 0 0, .int .i64 0, .int .i64 0] by rw [HV8.out, HQ9.out]; exact (Blk.new wr _ _).drew)
              have HL9 := Lib.hid (show wr.heap.size ≤ q9 by rw [HQ9.out]; exact Nat.le_refl _)
              rw [← HV8.out, ← HQ9.out]
              refine ⟨SB27 wr, HBA.out, fun _ h => h, ?_⟩
              (try simp only [Act.put, List.setIfInBounds_toArray, List.set_cons_zero, List.set_cons_succ]); refine tree_one ?_; simp only [pickOps, List.getElem?_toArray]; (repeat (first | go_big_quiet_skip | (go_big_quiet_want; first | (go_big_quiet_op; first | go_big_quiet_on | ((first | with_reducible refine ⟨_, fun _ _ => rfl, ?_⟩); go_big_quiet_on)) | (simp (contextual := true) [go_sem, HN]; with_reducible refine ⟨_, fun _ _ => rfl, ?_⟩; go_big_quiet_on)))); refine wpQuiet_nil ?_
              go_wp2_with (go_at_call 19; refine (HDO.out _ HBA.out).mono ?_; rintro e V3 ⟨A', c', rs', he, hb3, hr3, ho3, ha3⟩)
              have he' : e = .returned (.tuple #[.agg (MV F fs.length fc M2.gs A' rs'.length c' M2.holder M2.owner), .bool bo]) := he
              subst he'
              clear he
              have HB3 := Lib.hid (show SB27 wr V3 from Below.trans HBA.out (hb3.mono (Below.size HBA.out)))
              have HR3 := Lib.hid (show RIs V3 F fs M2 A' rs' from hr3)
              have HK3 := Lib.hid (show Blk V3 q9 47 #[.slice none 0 0, .int .i64 0, .slice none 0 0, .int .i64 0, .int .i64 0] from HKA.out.below hb3 HKA.out.lt)
              have HO3 := Lib.hid (show Old wr rs rs' from fun z hz hs b hb => (ho3 z hz hs b hb).imp id (fun h => Nat.le_trans (Below.size HBA.out) h))
              have HA3 := Lib.hid (show ∀ b, ob A' = some b → ob A = some b ∨ wr.heap.size ≤ b from fun b hb => (ha3 b hb).imp id (fun h => Nat.le_trans (Below.size HBA.out) h))
              have HS3 := Lib.hid (show ∀ z ∈ rs', z.x.th.stack ≠ [] → ∀ b, ob z.B = some b → b ≠ q9 from fun z hz hs b hb => by
                rcases ho3 z hz hs b hb with ⟨z0, h0, h1, h2⟩ | h3
                · have h4 := ob_lt HD.out.bx.ris z0 h0 h1 b h2
                  have h5 := HL9.out
                  omega
                · have h5 := HKA.out.lt
                  omega)
              clear hb3 hr3 ho3 ha3
              refine ⟨SB27 wr, HB3.out, fun _ h => h, ?_⟩
              (try simp only [Act.put]); refine tree_one ?_; simp only [pickOps, List.getElem?_toArray, List.getElem?_cons_zero, List.getElem?_cons_succ]; (repeat (first | go_big_quiet_skip | (go_big_quiet_want; first | (go_big_quiet_op; first | go_big_quiet_on | ((first | with_reducible refine ⟨_, fun _ _ => rfl, ?_⟩); go_big_quiet_on)) | (simp (contextual := true) [go_sem, HN]; with_reducible refine ⟨_, fun _ _ => rfl, ?_⟩; go_big_quiet_on)))); refine wpQuiet_nil ?_
              go_wp2_with (refine wpList_store_row rfl 47 _ _ rfl (q9) (MV F fs.length fc M2.gs A' rs'.length c' M2.holder M2.owner) rfl rfl 47 _ (HK3.out) (mv_info _ _ _ _ _ _ _ _ _) (mv_size _ _ _ _ _ _ _ _ _).symm (mv_one _ _ _ _ _ _ _ _ _) ?_)
              obtain ⟨Y, HY⟩ : ∃ X, Hid (X = V3.setRow q9 (MV F fs.length fc M2.gs A' rs'.length c' M2.holder M2.owner)) := ⟨_, Lib.hid rfl⟩
              have HBY := Lib.hid (show SB27 wr Y by rw [HY.out]; exact below_setRow HB3.out HL9.out (Below.size HB3.out) _)
              have HK9 := Lib.hid (show Blk Y q9 47 (MV F fs.length fc M2.gs A' rs'.length c' M2.holder M2.owner) by rw [HY.out]; exact HK3.out.setRow _)
              have HRY := Lib.hid (show RIs Y F fs M2 A' rs' by
                rw [HY.out]
                exact (ris_box HR3.out (HF.out.step HBR.out) HB3.out HL9.out HK3.out (by decide) HS3.out _).1)
              rw [← HY.out]
              refine ⟨SB27 wr, HBY.out, fun _ h => h, ?_⟩
              (try simp only [Act.put]); refine tree_fin ?_; simp only [pickOps, List.getElem?_toArray, List.getElem?_cons_zero, List.getElem?_cons_succ]; (repeat (first | go_big_quiet_skip | (go_big_quiet_want; first | (go_big_quiet_op; first | go_big_quiet_on | ((first | with_reducible refine ⟨_, fun _ _ => rfl, ?_⟩); go_big_quiet_on)) | (simp (contextual := true) [go_sem, HN]; with_reducible refine ⟨_, fun _ _ => rfl, ?_⟩; go_big_quiet_on)))); refine wpQuiet_nil ?_
              have HEC := Lib.hid (show ∀ j v, (evArr ev)[j]? = some v → Y.cell? ⟨b, off + k * 5 + j, none⟩ = some v from fun j v hv => (Below.cell (p := ⟨b, off + k * 5 + j, none⟩) HBY.out HBL.out).trans (HVC.out j v hv))
              have HDY := Lib.hid (HDM.out Y HBY.out)
              clear HDO HDM
              cases bo with
              | true =>
                simp only [if_true] at HDY
                go_wp2_with (first | (refine wpList_load_cellsW (by rfl) 43 _ rfl b (off + k * 5) rfl (evArr ev) _ HEC.out Tryd.underlying43 rfl (Tryd.infoEv5 _ _ _ _ _) ?_) | (go_at_call 15; refine HDY.out.mono ?_; rintro e Z ⟨rfl, hd⟩; obtain ⟨ps', L', c1', Bs', hM, hR, hwz, hk9, hkq, hnx⟩ := HD.out.step HF.out HBY.out HL9.out HK9.out HRY.out HO3.out HA3.out HDN.out hd; have HZ9 := Lib.hid hk9; have HZQ := Lib.hid hkq; have HNX := Lib.hid hnx; have HLK := Lib.hid (like27 (c2 := c') (fc2 := fc) hM hwz.size hR (by rw [HDG.out, HGS.out]; have := HG.out; omega) rs'.length rfl); clear hd hM hR hwz hk9 hkq hnx) | (refine wpList_load_cellsW (by rfl) 47 _ rfl q9 0 rfl (MV F fs.length fc M2.gs A' rs'.length c' M2.holder M2.owner) _ (fun j v hv => by rw [Nat.zero_add]; exact (Blk.cell HZ9.out j).trans hv) Tryd.underlying47 rfl (mv_info _ _ _ _ _ _ _ _ _) ?_) | (go_at_call 20; refine HLK.out.mono ?_; rintro e Z2 ⟨rfl, hz2⟩; have HD7 := Lib.hid (HNX.out Z2 hz2); have HK92 := Lib.hid (HZ9.out.below hz2 HZ9.out.lt); have HKQ2 := Lib.hid (HZQ.out.below hz2 HZQ.out.lt); clear hz2 HZ9 HZQ HNX HLK) | (refine wpList_load_row rfl 47 _ rfl (q9) rfl 47 (MV F fs.length fc M2.gs A' rs'.length c' M2.holder M2.owner) (0, 0) _ (HK92.out) Tryd.underlying47 rfl (mv_info _ _ _ _ _ _ _ _ _) ?_) | (refine wpList_store_row rfl 47 _ _ rfl (qm) (MV F fs.length fc M2.gs A' rs'.length c' M2.holder M2.owner) rfl rfl 47 _ (HKQ2.out) (mv_info _ _ _ _ _ _ _ _ _) (mv_size _ _ _ _ _ _ _ _ _).symm (mv_one _ _ _ _ _ _ _ _ _) ?_))
                go_roundw
                case rel => exact ⟨k + 1, by omega, by go_num, Lib.hid ⟨M2, _, _, _, _, A', c', rs', HD7.out, HDG.out.trans HGS.out⟩⟩
                case measure => simp [intOf]; omega
              | false =>
                simp only [Bool.false_eq_true, if_false] at HDY
                go_wp2_with (first | (refine wpList_load_cellsW (by rfl) 43 _ rfl b (off + k * 5) rfl (evArr ev) _ HEC.out Tryd.underlying43 rfl (Tryd.infoEv5 _ _ _ _ _) ?_) | (go_at_call 15; refine HDY.out.mono ?_; rintro e Z ⟨rfl, hd⟩; obtain ⟨ps', L', c1', Bs', hM, hR, hwz, hk9, hkq, hnx⟩ := HD.out.step HF.out HBY.out HL9.out HK9.out HRY.out HO3.out HA3.out HDN.out hd; have HZ9 := Lib.hid hk9; have HZQ := Lib.hid hkq; have HNX := Lib.hid hnx; have HLK := Lib.hid (like27 (c2 := c') (fc2 := fc) hM hwz.size hR (by rw [HDG.out, HGS.out]; have := HG.out; omega) rs'.length rfl); clear hd hM hR hwz hk9 hkq hnx) | (refine wpList_load_cellsW (by rfl) 47 _ rfl q9 0 rfl (MV F fs.length fc M2.gs A' rs'.length c' M2.holder M2.owner) _ (fun j v hv => by rw [Nat.zero_add]; exact (Blk.cell HZ9.out j).trans hv) Tryd.underlying47 rfl (mv_info _ _ _ _ _ _ _ _ _) ?_) | (go_at_call 20; refine HLK.out.mono ?_; rintro e Z2 ⟨rfl, hz2⟩; have HD7 := Lib.hid (HNX.out Z2 hz2); have HK92 := Lib.hid (HZ9.out.below hz2 HZ9.out.lt); have HKQ2 := Lib.hid (HZQ.out.below hz2 HZQ.out.lt); clear hz2 HZ9 HZQ HNX HLK) | (refine wpList_load_row rfl 47 _ rfl (q9) rfl 47 (MV F fs.length fc M2.gs A' rs'.length c' M2.holder M2.owner) (0, 0) _ (HK92.out) Tryd.underlying47 rfl (mv_info _ _ _ _ _ _ _ _ _) ?_) | (refine wpList_store_row rfl 47 _ _ rfl (qm) (MV F fs.length fc M2.gs A' rs'.length c' M2.holder M2.owner) rfl rfl 47 _ (HKQ2.out) (mv_info _ _ _ _ _ _ _ _ _) (mv_size _ _ _ _ _ _ _ _ _).symm (mv_one _ _ _ _ _ _ _ _ _) ?_))
                go_roundw
                case rel => exact ⟨k + 1, by omega, by go_num, Lib.hid ⟨M2, _, _, _, _, A', c', rs', HD7.out, HDG.out.trans HGS.out⟩⟩
                case measure => simp [intOf]; omega
          · obtain ⟨M, ps, L, c, Bs, A, c2, rs, hD, -⟩ := HC.out
            have HBR := Lib.hid hD.bx.bel
            have hkn : k = n := by omega
            subst hkn
            clear HC hD
            go_wp2_with (first | (go_at_call 8; refine (alive27 wr (HT.out.step HBR.out)).mono ?_; rintro e W5 ⟨rfl, hb5⟩; have HB5 := Lib.hid (HBR.out.trans (hb5.mono HBR.out.size)); clear hb5))
            go_ret
            exact ⟨rfl, HB5.out⟩
  · cases lt with
    | false =>
      clear hgo
      go_enter Tryd.func5, Tryd.ntmps5
      go_wp2_with fail
      rw [← hw]
      clear hw hgp hgc
      refine HLT.out.mono ?_
      rintro e W1 ⟨rfl, hb1⟩
      have HB1 := Lib.hid (show SB27 W W1 from hb1)
      clear hb1
      go_wp2_with (first | (go_at_call 8; refine (alive27 W1 ((HT.out.step HBW.out).step HB1.out)).mono ?_; rintro e W5 ⟨rfl, hb5⟩; have HB5 := Lib.hid (show SB27 W W5 from Below.trans HB1.out (hb5.mono (Below.size HB1.out))); clear hb5))
      go_ret
      exact ⟨rfl, HBW.out.trans (Below.mono HB5.out HBW.out.size)⟩
    | true =>
      have h100 : 100 < n := by
        rcases Nat.lt_or_ge 100 n with h | h
        · exact h
        · exact absurd ⟨rfl, h⟩ hgo
      have e200 : decide (100 < n) = true := decide_eq_true h100
      have e201 : decide ((100 : Int) < (n : Int)) = true := decide_eq_true (by omega)
      clear hgo h100
      go_enter Tryd.func5, Tryd.ntmps5
      go_wp2_with fail
      rw [← hw]
      clear hw hgp hgc
      refine HLT.out.mono ?_
      rintro e W1 ⟨rfl, hb1⟩
      have HB1 := Lib.hid (show SB27 W W1 from hb1)
      clear hb1
      go_wp2_with (first | (go_at_call 8; refine (alive27 W1 ((HT.out.step HBW.out).step HB1.out)).mono ?_; rintro e W5 ⟨rfl, hb5⟩; have HB5 := Lib.hid (show SB27 W W5 from Below.trans HB1.out (hb5.mono (Below.size HB1.out))); clear hb5))
      go_ret
      exact ⟨rfl, HBW.out.trans (Below.mono HB5.out HBW.out.size)⟩
end Go.Proofs.YtkfpnppppmccdaaDoor

/-
  Chapter 27, the reference's model: Can (printed by rcn27.py).
-/
import Derived.Test.YtkfpnppppmccdaaDoorRis27
namespace Go.Proofs.YtkfpnppppmccdaaDoor
open Go.RowKit
set_option maxRecDepth 10000 in
set_option maxHeartbeats 8000000 in
theorem rcan_any27 {w : World} {n c fc : Nat} {F A : Option Addr} {fs : List Fn} {M : Md} {rs : List Pg} (hR : RIs w F fs M A rs) (hn : n = rs.length) (hgs : M.gs ≤ 100) (gg : Int) :
    Calls Tryd.prog 42 #[.agg (MV F fs.length fc M.gs A n c M.holder M.owner), .int .i64 gg] w fun e w' => e = .returned (.bool (canP fs M gg)) ∧ Below w.heap.size w w' := by
  obtain ⟨cv, HCV⟩ : ∃ x, Hid (x = canP fs M gg) := ⟨_, Lib.hid rfl⟩
  rw [← HCV.out]
  obtain ⟨q, HQ⟩ : ∃ q, Hid (q = w.heap.size) := ⟨_, Lib.hid rfl⟩
  obtain ⟨W, HW⟩ : ∃ V, Hid (V = w.alloc (.cells (MV F fs.length fc M.gs A n c M.holder M.owner) 47)) := ⟨_, Lib.hid rfl⟩
  have HBW := Lib.hid (show Below w.heap.size w W by rw [HW.out]; exact (Below.refl w.heap.size w).alloc (Nat.le_refl _) _)
  have H1 := Lib.hid (show Blk W q 47 (MV F fs.length fc M.gs A n c M.holder M.owner) by rw [HW.out, HQ.out]; exact Blk.new _ _ _)
  have HR := Lib.hid hR
  have HN := Lib.hid hn
  have HGS := Lib.hid hgs
  have HAC := Lib.hid (show Calls Tryd.prog 37 #[.agg (MV F fs.length fc M.gs A n c M.holder M.owner), .int .i64 gg] W _ from racts_any (hR.step HBW.out) hn gg)
  have hw := HW.out
  have hq := HQ.out
  clear hgs hn
  go_enter Tryd.func42, Tryd.ntmps42
  go_upto_region 1 with (fail)
  rw [← hw, ← hq]
  clear hw hq
  go_wp2_with (refine wpList_load_row rfl 47 _ rfl (q) rfl 47 (MV F fs.length fc M.gs A n c M.holder M.owner) (0, 0) _ H1.out Tryd.underlying47 rfl (mv_info _ _ _ _ _ _ _ _ _) ?_)
  refine HAC.out.mono ?_
  rintro e V1 ⟨rfl, hb1⟩
  have HBV1 := Lib.hid (show Below W.heap.size W V1 from hb1)
  clear hb1
  by_cases ha : actsP M gg = true
  · rw [ha]
    obtain ⟨k, hgm, hkM, rfl, hnd⟩ := acts_get ha
    have hk : k < rs.length := by rw [← hR.len]; exact hkM
    have hgo := hR.goAt hk
    obtain ⟨z, HZE⟩ : ∃ z, Hid (z = rs[k]) := ⟨_, Lib.hid rfl⟩
    have hz : rs[k]? = some z := by rw [List.getElem?_eq_getElem hk, HZE.out]
    have hzm := List.mem_of_getElem? hz
    rw [← HZE.out] at hgo
    rw [hgo] at hnd
    obtain ⟨hrun, k1, m1, ek, em, hk1, hm1, ei⟩ := fits_place (hR.fits z hzm) hnd
    have hins := run_ins hrun hk1 hm1
    rw [← ei] at hins
    obtain ⟨i, HIE⟩ : ∃ i, Hid (i = insAt fs z.x.th.fn z.x.th.pc) := ⟨_, Lib.hid rfl⟩
    rw [← HIE.out] at hins
    have HTZ := Lib.hid (hR.th z hzm)
    have HFZ := Lib.hid (hR.fits z hzm)
    obtain ⟨a, HAE⟩ : ∃ a : Nat, Hid (i.a = a) := by
      obtain ⟨a, h⟩ := Int.eq_ofNat_of_zero_le hins.a0
      exact ⟨a, Lib.hid h⟩
    have HA8 := Lib.hid (show a < 8 by have := hins.a8; rw [HAE.out] at this; omega)
    obtain ⟨g, off, rfl, hgl, hc0⟩ := pg_at hR.row hk
    rw [← HZE.out] at hc0
    have HGC := Lib.hid (show ∀ V, Below W.heap.size W V → ∀ j v, (thArr z.x.th z.B z.d)[j]? = some v → V.cell? ⟨g, off + k * 16 + j, none⟩ = some v from fun V hV j v hv => (Below.cell (p := ⟨g, off + k * 16 + j, none⟩) (HBW.out.trans (hV.mono HBW.out.size)) hgl).trans (hc0 j v (by
      have hj : j < 12 := by
        have := (Array.getElem?_eq_some_iff.1 hv).1
        rw [thArr_size z.B z.d HTZ.out.regs] at this
        exact this
      exact (pg_th z HTZ.out.regs j hj).trans hv)))
    have HK := Lib.hid (And.intro hz (And.intro hnd hgo))
    have hn := HN.out
    have hn100 : n ≤ 100 := by have := hR.few; omega
    have hkn : k < n := by omega
    obtain ⟨rs1, ho1, ow1, b1, HWR⟩ : ∃ a b c d, Hid (worldR rs M.holder M.owner ((k : Int) + 1) k z i.op = (a, b, c, d)) := ⟨_, _, _, _, Lib.hid rfl⟩
    obtain ⟨rs2, ans, b2, HAR⟩ : ∃ a' b' c', Hid (asksR rs1 ho1 M.gs ((k : Int) + 1) k (z.x.th.regs.getD a 0) i = (a', b', c')) := ⟨_, _, _, Lib.hid rfl⟩
    obtain ⟨bb, HBB⟩ : ∃ x, Hid (x = beginsP M k i) := ⟨_, Lib.hid rfl⟩
    obtain ⟨cb, HCB⟩ : ∃ x, Hid (x = commitsP M (k + 1) k i) := ⟨_, Lib.hid rfl⟩
    have HBQ := Lib.hid (beg_eq HR.out.hl HK.out.1 i a HAE.out).1
    rw [← HN.out, ← HBB.out] at HBQ
    have HCQ := Lib.hid (com_eq HR.out.hl HK.out.1 i a HAE.out HWR.out HAR.out).1
    rw [← HCB.out] at HCQ
    have HP := Lib.hid (show cv = (cb || bb) by
      rw [HCV.out]
      unfold canP
      simp only
      rw [if_pos ha, show ((k : Int) + 1 - 1).toNat = k by omega, hgo, ← HIE.out, ← HCB.out, ← HBB.out])
    have PL : ∀ w', SB27 V1 w' → (loadVar 24 ⟨q, 0, none⟩).run Tryd.prog w' = .ok (.agg #[.slice F fs.length fc]) w' := fun w' h => run_loadVar_cells w' q 0 _ _ _ (fun j v hv => by
      have hj : j = 0 := by
        have := (Array.getElem?_eq_some_iff.1 hv).1
        simp at this
        omega
      subst hj
      rw [← hv]
      exact (Blk.cell (H1.out.below (HBV1.out.trans (Below.mono h HBV1.out.size)) H1.out.lt) 0).trans rfl) Tryd.underlying24 rfl (Tryd.infoPr1 _)
    have C2 : ∀ w', SB27 V1 w' → w'.cell? ⟨q, 2, none⟩ = some (.slice (some ⟨g, off, none⟩) n c) := fun w' h => (Blk.cell (H1.out.below (HBV1.out.trans (Below.mono h HBV1.out.size)) H1.out.lt) 2).trans rfl
    have LT : ∀ w', SB27 V1 w' → (loadVar 56 ⟨g, off + k * 16, none⟩).run Tryd.prog w' = .ok (.agg (thArr z.x.th z.B z.d)) w' := fun w' h => run_loadVar_cells w' g (off + k * 16) _ _ _ (HGC.out w' (HBV1.out.trans (Below.mono h HBV1.out.size))) Tryd.underlying56 rfl (by rw [thArr_size z.B z.d HTZ.out.regs]; exact Tryd.infoTh)
    have HAT := Lib.hid (fun (V : World) (hV : Below W.heap.size W V) => rAt_any z.x.th F z.B fc z.d fs V HR.out.prog.2 (HR.out.prog.1.step (HBW.out.trans (hV.mono HBW.out.size))) (HTZ.out.step (HBW.out.trans (hV.mono HBW.out.size))) HFZ.out)
    simp only [HK.out.2.1, Bool.false_eq_true, if_false, ← HIE.out, Bool.not_false] at HAT
    have HVD := Lib.hid (show SB27 V1 V1.drew from (Below.refl _ V1).drew)
    have HZI := Lib.hid Tryd.infoInsS
    clear HZE
    clear hgm hkM hk hz hzm hnd hk1 hm1 ei hins hrun hgl hc0 ha hgo hn
    go_upto_region 3 with (fail)
    refine region_tree (SB27 V1) (.two [0, 1, 2, 3, 4, 5, 6, 7, 8] 9 (.one [10, 11, 12] 13 (.one [] 14 (.fin [15]))) 13 (.one [] 9 (.one [10, 11, 12] 14 (.fin [15])))) (by kernel_rfl) (by kernel_rfl) (by kernel_rfl) (fun _ _ d _ _ h => by cases d <;> exact h) HVD.out ?_
    (try simp only [Act.put]); refine tree_two ?_; simp only [pickOps, List.getElem?_toArray, List.getElem?_cons_zero, List.getElem?_cons_succ]; (repeat (first | (refine quiet_load_at (by rfl) 24 _ rfl ⟨q, 0, none⟩ rfl #[.slice F fs.length fc] PL ?_; simp only [Act.put, List.setIfInBounds_toArray, List.set_cons_zero, List.set_cons_succ]) | (refine quiet_load_at (by rfl) 56 _ rfl ⟨g, off + k * 16, none⟩ rfl (thArr z.x.th z.B z.d) LT ?_; simp only [Act.put, List.setIfInBounds_toArray, List.set_cons_zero, List.set_cons_succ]) | go_big_quiet_skip | (go_big_quiet_want; first | (go_big_quiet_op; first | go_big_quiet_on | ((first | with_reducible refine ⟨_, fun _ _ => rfl, ?_⟩); go_big_quiet_on)) | (simp (contextual := true) [go_sem, C2]; with_reducible refine ⟨_, fun _ _ => rfl, ?_⟩; go_big_quiet_on)))); refine wpQuiet_nil ?_
    clear PL C2 LT
    refine ⟨?_, ?_⟩
    · go_wp2_with (go_at_call 38; refine (HAT.out _ (HBV1.out.trans (Below.mono HVD.out HBV1.out.size))).mono ?_; rintro e v8 ⟨rfl, hb⟩)
      have HB8 := Lib.hid (show SB27 V1 v8 from Below.trans HVD.out (hb.mono (Below.size HVD.out)))
      clear hb
      refine ⟨SB27 V1, HB8.out, fun _ h => h, ?_⟩
      (try simp only [Act.put, List.setIfInBounds_toArray, List.set_cons_zero, List.set_cons_succ]); refine tree_one ?_; simp only [pickOps, List.getElem?_toArray, List.getElem?_cons_zero, List.getElem?_cons_succ]; (repeat (first | go_big_quiet_skip | (go_big_quiet_want; first | (go_big_quiet_op; first | go_big_quiet_on | ((first | with_reducible refine ⟨_, fun _ _ => rfl, ?_⟩); go_big_quiet_on)) | (simp (contextual := true) [go_sem, HN]; with_reducible refine ⟨_, fun _ _ => rfl, ?_⟩; go_big_quiet_on)))); refine wpQuiet_nil ?_
      go_wp2_with fail
      refine ⟨SB27 V1, Below.alloc HB8.out (Below.size HB8.out) _, fun _ h => h, ?_⟩
      (try simp only [Act.put]); refine tree_one ?_; simp only [pickOps, List.getElem?_toArray, List.getElem?_cons_zero, List.getElem?_cons_succ]; (repeat (first | go_big_quiet_skip | (go_big_quiet_want; first | (go_big_quiet_op; first | go_big_quiet_on | ((first | with_reducible refine ⟨_, fun _ _ => rfl, ?_⟩); go_big_quiet_on)) | (simp (contextual := true) [go_sem, HN]; with_reducible refine ⟨_, fun _ _ => rfl, ?_⟩; go_big_quiet_on)))); refine wpQuiet_nil ?_
      go_wp2_with (refine wpList_store_row rfl 64 _ _ rfl v8.heap.size (insArr i) rfl rfl 64 _ (Blk.new v8 _ _) HZI.out rfl (insArr_one i) ?_)
      obtain ⟨Y, HY⟩ : ∃ X, Hid (X = (v8.alloc (.cells #[.int .i64 0, .int .i64 0, .int .i64 0, .int .i64 0, .int .i64 0] 64)).setRow v8.heap.size (insArr i)) := ⟨_, Lib.hid rfl⟩
      obtain ⟨q4, HQ4⟩ : ∃ x, Hid (x = v8.heap.size) := ⟨_, Lib.hid rfl⟩
      have HBY0 := Lib.hid (show SB27 V1 Y by rw [HY.out]; exact below_setRow (Below.alloc HB8.out (Below.size HB8.out) _) (Below.size HB8.out) (Below.size (Below.alloc HB8.out (Below.size HB8.out) _)) _)
      have HI4 := Lib.hid (show Blk Y q4 64 (insArr i) by rw [HY.out, HQ4.out]; exact (Blk.new v8 _ _).setRow _)
      rw [← HY.out, ← HQ4.out]
      refine ⟨SB27 V1, HBY0.out, fun _ h => h, ?_⟩
      (try simp only [Act.put]); refine tree_fin ?_; simp only [pickOps, List.getElem?_toArray, List.getElem?_cons_zero, List.getElem?_cons_succ]; (repeat (first | go_big_quiet_skip | (go_big_quiet_want; first | (go_big_quiet_op; first | go_big_quiet_on | ((first | with_reducible refine ⟨_, fun _ _ => rfl, ?_⟩); go_big_quiet_on)) | (simp (contextual := true) [go_sem, HN]; with_reducible refine ⟨_, fun _ _ => rfl, ?_⟩; go_big_quiet_on)))); refine wpQuiet_nil ?_
      have HBY := Lib.hid (HBV1.out.trans (Below.mono HBY0.out HBV1.out.size))
      have HBEG := Lib.hid (begin_any27 (c := c) (nf := fs.length) (fc := fc) (gs := M.gs) (ho := M.holder) (ow := M.owner) (HR.out.step (HBW.out.trans (HBY.out.mono HBW.out.size))) HN.out k z HK.out.1 i a HAE.out HA8.out)
      rw [HBQ.out] at HBEG
      unfold insArr at HBEG
      have j0 : Y.cell? ⟨q4, 0, none⟩ = some (.int .i64 i.op) := (HI4.out.cell 0).trans rfl
      have j1 : Y.cell? ⟨q4, 1, none⟩ = some (.int .i64 i.a) := (HI4.out.cell 1).trans rfl
      have j2 : Y.cell? ⟨q4, 2, none⟩ = some (.int .i64 i.b) := (HI4.out.cell 2).trans rfl
      have j3 : Y.cell? ⟨q4, 3, none⟩ = some (.int .i64 i.c) := (HI4.out.cell 3).trans rfl
      have j4 : Y.cell? ⟨q4, 4, none⟩ = some (.int .i64 i.n) := (HI4.out.cell 4).trans rfl
      go_upto_region 4 with (fail)
      go_wp2_with (refine wpList_load_row rfl 47 _ rfl (q) rfl 47 (MV F fs.length fc M.gs (some ⟨g, off, none⟩) n c M.holder M.owner) (0, 0) _ (H1.out.below HBY.out H1.out.lt) Tryd.underlying47 rfl (mv_info _ _ _ _ _ _ _ _ _) ?_)
      refine HBEG.out.mono ?_
      rintro e V3 ⟨A', n', c', ho', ow', rfl, hb3, -⟩
      have HB3 := Lib.hid (show Below W.heap.size W V3 from HBY.out.trans (hb3.mono HBY.out.size))
      have HB3L := Lib.hid hb3
      clear hb3 j0 j1 j2 j3 j4
      go_upto_region 5 with (refine wpList_store_row rfl 47 _ _ rfl V3.heap.size (MV F fs.length fc M.gs A' n' c' ho' ow') rfl rfl 47 _ (Blk.new V3 _ _) (mv_info _ _ _ _ _ _ _ _ _) (mv_size _ _ _ _ _ _ _ _ _).symm (mv_one _ _ _ _ _ _ _ _ _) ?_)
      obtain ⟨Y2, HY2⟩ : ∃ X, Hid (X = (V3.alloc (.cells #[.slice none 0 0, .int .i64 0, .slice none 0 0, .int .i64 0, .int .i64 0] 47)).setRow V3.heap.size (MV F fs.length fc M.gs A' n' c' ho' ow')) := ⟨_, Lib.hid rfl⟩
      have HBY2 := Lib.hid (show Below W.heap.size W Y2 by rw [HY2.out]; exact below_setRow (HB3.out.alloc HB3.out.size _) HB3.out.size (HB3.out.alloc HB3.out.size _).size _)
      have HBLY2 := Lib.hid (show Below V3.heap.size V3 Y2 by rw [HY2.out]; exact below_setRow ((Below.refl _ V3).alloc (Nat.le_refl _) _) (Nat.le_refl _) (by rw [World.size_alloc]; omega) _)
      rw [← HY2.out]
      have HI5 := Lib.hid (((HI4.out.below HB3L.out HI4.out.lt)).below HBLY2.out (HI4.out.below HB3L.out HI4.out.lt).lt)
      have HCOM := Lib.hid (rcommit_any27 (c := c) (fc := fc) (gs := M.gs) (ho := M.holder) (ow := M.owner) (HR.out.step (HBW.out.trans (HBY2.out.mono HBW.out.size))) HN.out HGS.out k z HK.out.1 HK.out.2.1 i a HAE.out HA8.out HWR.out HAR.out)
      rw [← HCQ.out] at HCOM
      unfold insArr at HCOM
      have j0 : Y2.cell? ⟨q4, 0, none⟩ = some (.int .i64 i.op) := (HI5.out.cell 0).trans rfl
      have j1 : Y2.cell? ⟨q4, 1, none⟩ = some (.int .i64 i.a) := (HI5.out.cell 1).trans rfl
      have j2 : Y2.cell? ⟨q4, 2, none⟩ = some (.int .i64 i.b) := (HI5.out.cell 2).trans rfl
      have j3 : Y2.cell? ⟨q4, 3, none⟩ = some (.int .i64 i.c) := (HI5.out.cell 3).trans rfl
      have j4 : Y2.cell? ⟨q4, 4, none⟩ = some (.int .i64 i.n) := (HI5.out.cell 4).trans rfl
      go_wp2_with (refine wpList_load_row rfl 47 _ rfl (q) rfl 47 (MV F fs.length fc M.gs (some ⟨g, off, none⟩) n c M.holder M.owner) (0, 0) _ (H1.out.below HBY2.out H1.out.lt) Tryd.underlying47 rfl (mv_info _ _ _ _ _ _ _ _ _) ?_)
      refine HCOM.out.mono ?_
      rintro e V4 ⟨A5, n5, c5, ho5, ow5, told, rfl, hb4, -⟩
      have HB4 := Lib.hid (show Below W.heap.size W V4 from HBY2.out.trans (hb4.mono HBY2.out.size))
      clear hb4 j0 j1 j2 j3 j4
      go_upto_region 6 with (refine wpList_store_row rfl 47 _ _ rfl V4.heap.size (MV F fs.length fc M.gs A5 n5 c5 ho5 ow5) rfl rfl 47 _ (Blk.new V4 _ _) (mv_info _ _ _ _ _ _ _ _ _) (mv_size _ _ _ _ _ _ _ _ _).symm (mv_one _ _ _ _ _ _ _ _ _) ?_)
      obtain ⟨Y3, HY3⟩ : ∃ X, Hid (X = (V4.alloc (.cells #[.slice none 0 0, .int .i64 0, .slice none 0 0, .int .i64 0, .int .i64 0] 47)).setRow V4.heap.size (MV F fs.length fc M.gs A5 n5 c5 ho5 ow5)) := ⟨_, Lib.hid rfl⟩
      have HBY3 := Lib.hid (show Below W.heap.size W Y3 by rw [HY3.out]; exact below_setRow (HB4.out.alloc HB4.out.size _) HB4.out.size (HB4.out.alloc HB4.out.size _).size _)
      have HBLY3 := Lib.hid (show Below V4.heap.size V4 Y3 by rw [HY3.out]; exact below_setRow ((Below.refl _ V4).alloc (Nat.le_refl _) _) (Nat.le_refl _) (by rw [World.size_alloc]; omega) _)
      rw [← HY3.out]
      cases bb with
      | true =>
        go_wp2_with fail
        go_ret
        rw [HP.out, Bool.or_true]
        exact ⟨rfl, HBW.out.trans (HBY3.out.mono HBW.out.size)⟩
      | false =>
        go_wp2_with fail
        go_ret
        rw [HP.out, Bool.or_false]
        exact ⟨rfl, HBW.out.trans (HBY3.out.mono HBW.out.size)⟩
    · go_wp2_with fail
      obtain ⟨v8, HV8⟩ : ∃ X, Hid (X = (V1.alloc (.cells #[.int .i64 0, .int .i64 0, .int .i64 0, .int .i64 0, .int .i64 0] 64)).drew) := ⟨_, Lib.hid rfl⟩
      obtain ⟨q4, HQ4⟩ : ∃ x, Hid (x = V1.heap.size) := ⟨_, Lib.hid rfl⟩
      have HBA := Lib.hid (show SB27 V1 v8 by rw [HV8.out]; exact ((Below.refl V1.heap.size V1).alloc (Nat.le_refl _) _).drew)
      have HKA := Lib.hid (show Blk v8 q4 64 #[.int .i64 0, .int .i64 0, .int .i64 0, .int .i64 0, .int .i64 0] by rw [HV8.out, HQ4.out]; exact (Blk.new V1 _ _).drew)
      have HL4 := Lib.hid (show V1.heap.size ≤ q4 by rw [HQ4.out]; exact Nat.le_refl _)
      rw [← HV8.out, ← HQ4.out]
      refine ⟨SB27 V1, HBA.out, fun _ h => h, ?_⟩
      (try simp only [Act.put, List.setIfInBounds_toArray, List.set_cons_zero, List.set_cons_succ]); refine tree_one ?_; simp only [pickOps, List.getElem?_toArray]; (repeat (first | go_big_quiet_skip | (go_big_quiet_want; first | (go_big_quiet_op; first | go_big_quiet_on | ((first | with_reducible refine ⟨_, fun _ _ => rfl, ?_⟩); go_big_quiet_on)) | (simp (contextual := true) [go_sem, HN]; with_reducible refine ⟨_, fun _ _ => rfl, ?_⟩; go_big_quiet_on)))); refine wpQuiet_nil ?_
      go_wp2_with (go_at_call 38; refine (HAT.out _ (HBV1.out.trans (Below.mono HBA.out HBV1.out.size))).mono ?_; rintro e v9 ⟨rfl, hb⟩)
      have HB8 := Lib.hid (show SB27 V1 v9 from Below.trans HBA.out (hb.mono (Below.size HBA.out)))
      have HK8 := Lib.hid (HKA.out.below hb HKA.out.lt)
      clear hb
      refine ⟨SB27 V1, HB8.out, fun _ h => h, ?_⟩
      (try simp only [Act.put, List.setIfInBounds_toArray, List.set_cons_zero, List.set_cons_succ]); refine tree_one ?_; simp only [pickOps, List.getElem?_toArray, List.getElem?_cons_zero, List.getElem?_cons_succ]; (repeat (first | go_big_quiet_skip | (go_big_quiet_want; first | (go_big_quiet_op; first | go_big_quiet_on | ((first | with_reducible refine ⟨_, fun _ _ => rfl, ?_⟩); go_big_quiet_on)) | (simp (contextual := true) [go_sem, HN]; with_reducible refine ⟨_, fun _ _ => rfl, ?_⟩; go_big_quiet_on)))); refine wpQuiet_nil ?_
      go_wp2_with (refine wpList_store_row rfl 64 _ _ rfl q4 (insArr i) rfl rfl 64 _ HK8.out HZI.out rfl (insArr_one i) ?_)
      obtain ⟨Y, HY⟩ : ∃ X, Hid (X = v9.setRow q4 (insArr i)) := ⟨_, Lib.hid rfl⟩
      have HBY0 := Lib.hid (show SB27 V1 Y by rw [HY.out]; exact below_setRow HB8.out HL4.out (Below.size HB8.out) _)
      have HI4 := Lib.hid (show Blk Y q4 64 (insArr i) by rw [HY.out]; exact HK8.out.setRow _)
      rw [← HY.out]
      refine ⟨SB27 V1, HBY0.out, fun _ h => h, ?_⟩
      (try simp only [Act.put]); refine tree_fin ?_; simp only [pickOps, List.getElem?_toArray, List.getElem?_cons_zero, List.getElem?_cons_succ]; (repeat (first | go_big_quiet_skip | (go_big_quiet_want; first | (go_big_quiet_op; first | go_big_quiet_on | ((first | with_reducible refine ⟨_, fun _ _ => rfl, ?_⟩); go_big_quiet_on)) | (simp (contextual := true) [go_sem, HN]; with_reducible refine ⟨_, fun _ _ => rfl, ?_⟩; go_big_quiet_on)))); refine wpQuiet_nil ?_
      have HBY := Lib.hid (HBV1.out.trans (Below.mono HBY0.out HBV1.out.size))
      have HBEG := Lib.hid (begin_any27 (c := c) (nf := fs.length) (fc := fc) (gs := M.gs) (ho := M.holder) (ow := M.owner) (HR.out.step (HBW.out.trans (HBY.out.mono HBW.out.size))) HN.out k z HK.out.1 i a HAE.out HA8.out)
      rw [HBQ.out] at HBEG
      unfold insArr at HBEG
      have j0 : Y.cell? ⟨q4, 0, none⟩ = some (.int .i64 i.op) := (HI4.out.cell 0).trans rfl
      have j1 : Y.cell? ⟨q4, 1, none⟩ = some (.int .i64 i.a) := (HI4.out.cell 1).trans rfl
      have j2 : Y.cell? ⟨q4, 2, none⟩ = some (.int .i64 i.b) := (HI4.out.cell 2).trans rfl
      have j3 : Y.cell? ⟨q4, 3, none⟩ = some (.int .i64 i.c) := (HI4.out.cell 3).trans rfl
      have j4 : Y.cell? ⟨q4, 4, none⟩ = some (.int .i64 i.n) := (HI4.out.cell 4).trans rfl
      go_upto_region 4 with (fail)
      go_wp2_with (refine wpList_load_row rfl 47 _ rfl (q) rfl 47 (MV F fs.length fc M.gs (some ⟨g, off, none⟩) n c M.holder M.owner) (0, 0) _ (H1.out.below HBY.out H1.out.lt) Tryd.underlying47 rfl (mv_info _ _ _ _ _ _ _ _ _) ?_)
      refine HBEG.out.mono ?_
      rintro e V3 ⟨A', n', c', ho', ow', rfl, hb3, -⟩
      have HB3 := Lib.hid (show Below W.heap.size W V3 from HBY.out.trans (hb3.mono HBY.out.size))
      have HB3L := Lib.hid hb3
      clear hb3 j0 j1 j2 j3 j4
      go_upto_region 5 with (refine wpList_store_row rfl 47 _ _ rfl V3.heap.size (MV F fs.length fc M.gs A' n' c' ho' ow') rfl rfl 47 _ (Blk.new V3 _ _) (mv_info _ _ _ _ _ _ _ _ _) (mv_size _ _ _ _ _ _ _ _ _).symm (mv_one _ _ _ _ _ _ _ _ _) ?_)
      obtain ⟨Y2, HY2⟩ : ∃ X, Hid (X = (V3.alloc (.cells #[.slice none 0 0, .int .i64 0, .slice none 0 0, .int .i64 0, .int .i64 0] 47)).setRow V3.heap.size (MV F fs.length fc M.gs A' n' c' ho' ow')) := ⟨_, Lib.hid rfl⟩
      have HBY2 := Lib.hid (show Below W.heap.size W Y2 by rw [HY2.out]; exact below_setRow (HB3.out.alloc HB3.out.size _) HB3.out.size (HB3.out.alloc HB3.out.size _).size _)
      have HBLY2 := Lib.hid (show Below V3.heap.size V3 Y2 by rw [HY2.out]; exact below_setRow ((Below.refl _ V3).alloc (Nat.le_refl _) _) (Nat.le_refl _) (by rw [World.size_alloc]; omega) _)
      rw [← HY2.out]
      have HI5 := Lib.hid (((HI4.out.below HB3L.out HI4.out.lt)).below HBLY2.out (HI4.out.below HB3L.out HI4.out.lt).lt)
      have HCOM := Lib.hid (rcommit_any27 (c := c) (fc := fc) (gs := M.gs) (ho := M.holder) (ow := M.owner) (HR.out.step (HBW.out.trans (HBY2.out.mono HBW.out.size))) HN.out HGS.out k z HK.out.1 HK.out.2.1 i a HAE.out HA8.out HWR.out HAR.out)
      rw [← HCQ.out] at HCOM
      unfold insArr at HCOM
      have j0 : Y2.cell? ⟨q4, 0, none⟩ = some (.int .i64 i.op) := (HI5.out.cell 0).trans rfl
      have j1 : Y2.cell? ⟨q4, 1, none⟩ = some (.int .i64 i.a) := (HI5.out.cell 1).trans rfl
      have j2 : Y2.cell? ⟨q4, 2, none⟩ = some (.int .i64 i.b) := (HI5.out.cell 2).trans rfl
      have j3 : Y2.cell? ⟨q4, 3, none⟩ = some (.int .i64 i.c) := (HI5.out.cell 3).trans rfl
      have j4 : Y2.cell? ⟨q4, 4, none⟩ = some (.int .i64 i.n) := (HI5.out.cell 4).trans rfl
      go_wp2_with (refine wpList_load_row rfl 47 _ rfl (q) rfl 47 (MV F fs.length fc M.gs (some ⟨g, off, none⟩) n c M.holder M.owner) (0, 0) _ (H1.out.below HBY2.out H1.out.lt) Tryd.underlying47 rfl (mv_info _ _ _ _ _ _ _ _ _) ?_)
      refine HCOM.out.mono ?_
      rintro e V4 ⟨A5, n5, c5, ho5, ow5, told, rfl, hb4, -⟩
      have HB4 := Lib.hid (show Below W.heap.size W V4 from HBY2.out.trans (hb4.mono HBY2.out.size))
      clear hb4 j0 j1 j2 j3 j4
      go_upto_region 6 with (refine wpList_store_row rfl 47 _ _ rfl V4.heap.size (MV F fs.length fc M.gs A5 n5 c5 ho5 ow5) rfl rfl 47 _ (Blk.new V4 _ _) (mv_info _ _ _ _ _ _ _ _ _) (mv_size _ _ _ _ _ _ _ _ _).symm (mv_one _ _ _ _ _ _ _ _ _) ?_)
      obtain ⟨Y3, HY3⟩ : ∃ X, Hid (X = (V4.alloc (.cells #[.slice none 0 0, .int .i64 0, .slice none 0 0, .int .i64 0, .int .i64 0] 47)).setRow V4.heap.size (MV F fs.length fc M.gs A5 n5 c5 ho5 ow5)) := ⟨_, Lib.hid rfl⟩
      have HBY3 := Lib.hid (show Below W.heap.size W Y3 by rw [HY3.out]; exact below_setRow (HB4.out.alloc HB4.out.size _) HB4.out.size (HB4.out.alloc HB4.out.size _).size _)
      have HBLY3 := Lib.hid (show Below V4.heap.size V4 Y3 by rw [HY3.out]; exact below_setRow ((Below.refl _ V4).alloc (Nat.le_refl _) _) (Nat.le_refl _) (by rw [World.size_alloc]; omega) _)
      rw [← HY3.out]
      cases bb with
      | true =>
        go_wp2_with fail
        go_ret
        rw [HP.out, Bool.or_true]
        exact ⟨rfl, HBW.out.trans (HBY3.out.mono HBW.out.size)⟩
      | false =>
        go_wp2_with fail
        go_ret
        rw [HP.out, Bool.or_false]
        exact ⟨rfl, HBW.out.trans (HBY3.out.mono HBW.out.size)⟩
  · have hf : actsP M gg = false := by simpa using ha
    have HP := Lib.hid (show cv = false by rw [HCV.out]; unfold canP; rw [if_neg ha])
    rw [hf]
    clear ha hf hR
    go_upto_region 2 with (fail)
    go_wp2_with fail
    go_ret
    rw [HP.out]
    exact ⟨rfl, HBW.out.trans (HBV1.out.mono HBW.out.size)⟩
end Go.Proofs.YtkfpnppppmccdaaDoor

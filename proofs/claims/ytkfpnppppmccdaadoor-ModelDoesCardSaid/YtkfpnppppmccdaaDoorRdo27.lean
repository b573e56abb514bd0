/-
  Chapter 27, the reference's model: Do (printed by rdo27.py).
-/
import Derived.Test.YtkfpnppppmccdaaDoorRis27
namespace Go.Proofs.YtkfpnppppmccdaaDoor
open Go.RowKit
/-- What Do answers: the model then; was it allowed? -/
def RDoOut (w : World) (F : Option Addr) (fs : List Fn) (fc : Nat) (A : Option Addr) (rs : List Pg) (r : Md × Bool) (e : Ending) (w' : World) : Prop :=
  ∃ A' c' rs', e = .returned (.tuple #[.agg (MV F fs.length fc r.1.gs A' rs'.length c' r.1.holder r.1.owner), .bool r.2]) ∧ Below w.heap.size w w' ∧ RIs w' F fs r.1 A' rs' ∧ Old w rs rs' ∧ ∀ b, ob A' = some b → ob A = some b ∨ w.heap.size ≤ b
theorem fin_row {V Y : World} {q : Nat} {A : Option Addr} {xs : List Value} (hb : Below V.heap.size V Y) (h : Row V V.heap.size A xs) (hA : ∀ x, ob A = some x → x ≠ q) (cs : Array Value) : Row (Y.setRow q cs) (Y.setRow q cs).heap.size A xs :=
  row_mv ((h.below hb).more hb.size) ((Mv.refl [q] Y).setRow q cs (by simp)) (fun _ b hb => by have := hA b hb; simpa using this)
theorem fin_thok {V Y : World} {q : Nat} {u : Th} {B : Option Addr} {d : Nat} (hb : Below V.heap.size V Y) (h : ThOk V V.heap.size u B d) (hB : ∀ x, ob B = some x → x ≠ q) (cs : Array Value) : ThOk (Y.setRow q cs) (Y.setRow q cs).heap.size u B d :=
  thok_mv (h.step hb) ((Mv.refl [q] Y).setRow q cs (by simp)) (fun _ b hb => by have := hB b hb; simpa using this)
set_option maxRecDepth 10000 in
set_option maxHeartbeats 8000000 in
theorem rdo_any27 {w : World} {n c fc : Nat} {F A : Option Addr} {fs : List Fn} {M : Md} {rs : List Pg} (hR : RIs w F fs M A rs) (hn : n = rs.length) (hgs : M.gs ≤ 100) (ev : Ev) :
    Calls Tryd.prog 19 #[.agg (MV F fs.length fc M.gs A n c M.holder M.owner), .agg (evArr ev)] w (RDoOut w F fs fc A rs (doP fs M ev)) := by
  obtain ⟨kind, gg, fn, pc, en⟩ := ev
  obtain ⟨q, HQ⟩ : ∃ q, Hid (q = w.heap.size) := ⟨_, Lib.hid rfl⟩
  obtain ⟨W, HW⟩ : ∃ V, Hid (V = ((w.alloc (.cells (MV F fs.length fc M.gs A n c M.holder M.owner) 47)).alloc (.cells (evArr ⟨kind, gg, fn, pc, en⟩) 43)).alloc (.cells #[.slice none 0 0, .int .i64 0, .slice none 0 0, .int .i64 0, .int .i64 0] 47)) := ⟨_, Lib.hid rfl⟩
  have HBW := Lib.hid (show Below w.heap.size w W by rw [HW.out]; exact below3 w _ _ _)
  obtain ⟨h1, h2, h3⟩ := blk_three w 47 43 47 (MV F fs.length fc M.gs A n c M.holder M.owner) (evArr ⟨kind, gg, fn, pc, en⟩) #[.slice none 0 0, .int .i64 0, .slice none 0 0, .int .i64 0, .int .i64 0]
  rw [← HW.out, ← HQ.out] at h1 h2 h3
  have H1 := Lib.hid h1
  have H2 := Lib.hid h2
  have H3 := Lib.hid h3
  have HR := Lib.hid hR
  have HRW := Lib.hid (hR.step HBW.out)
  have HN := Lib.hid hn
  have HGS := Lib.hid hgs
  have HAC := Lib.hid (show Calls Tryd.prog 37 #[.agg (MV F fs.length fc M.gs A n c M.holder M.owner), .int .i64 gg] W _ from racts_any (hR.step HBW.out) hn gg)
  have HBW0 := Lib.hid (Below.refl W.heap.size W)
  have ev1 : W.cell? ⟨q + 1, 1, none⟩ = some (.int .i64 gg) := (H2.out.cell 1).trans rfl
  have hw := HW.out
  unfold evArr at hw
  simp only at hw
  have hq := HQ.out
  clear h1 h2 h3 hgs hn
  go_enter Tryd.func19, Tryd.ntmps19
  unfold evArr
  go_upto_region 1 with (fail)
  rw [← hw, ← hq]
  clear hw hq
  go_wp2_with (refine wpList_load_row rfl 47 _ rfl (q) rfl 47 (MV F fs.length fc M.gs A n c M.holder M.owner) (0, 0) _ H1.out Tryd.underlying47 rfl (mv_info _ _ _ _ _ _ _ _ _) ?_)
  refine HAC.out.mono ?_
  rintro e V1 ⟨rfl, hb1⟩
  have HBV1 := Lib.hid (show Below W.heap.size W V1 from hb1)
  clear hb1 ev1
  by_cases ha : actsP M gg = true
  · rw [ha]
    obtain ⟨k, hgm, hkM, rfl, hnd⟩ := acts_get ha
    have hk : k < rs.length := by rw [← hR.len]; exact hkM
    have hgo := hR.goAt hk
    obtain ⟨z, HZE⟩ : ∃ z, Hid (z = rs[k]) := ⟨_, Lib.hid rfl⟩
    have hz : rs[k]? = some z := by rw [List.getElem?_eq_getElem hk, HZE.out]
    have hzm := List.mem_of_getElem? hz
    rw [← HZE.out] at hgo
    rw [hgo] at hnd
    obtain ⟨hrun, k1, m1, ek, em, hk1, hm1, ei⟩ := fits_place (hR.fits z hzm) hnd
    have hins := run_ins hrun hk1 hm1
    rw [← ei] at hins
    obtain ⟨i, HIE⟩ : ∃ i, Hid (i = insAt fs z.x.th.fn z.x.th.pc) := ⟨_, Lib.hid rfl⟩
    rw [← HIE.out] at hins
    have HTZ := Lib.hid (hR.th z hzm)
    have HFZ := Lib.hid (hR.fits z hzm)
    obtain ⟨a, HAE⟩ : ∃ a : Nat, Hid (i.a = a) := by
      obtain ⟨a, h⟩ := Int.eq_ofNat_of_zero_le hins.a0
      exact ⟨a, Lib.hid h⟩
    have HA8 := Lib.hid (show a < 8 by have := hins.a8; rw [HAE.out] at this; omega)
    have HF10 := Lib.hid (show i.op = 10 → ∀ x, fitsT fs (newTh i.n x) = true from fun h10 x => by
      have ht := hins.toFunc (by rw [h10]; exact target10)
      exact new_fits hrun ht.1 ht.2 x)
    obtain ⟨g, off, rfl, hgl, hc0⟩ := pg_at hR.row hk
    rw [← HZE.out] at hc0
    have HGC := Lib.hid (show ∀ V, Below W.heap.size W V → ∀ j v, (thArr z.x.th z.B z.d)[j]? = some v → V.cell? ⟨g, off + k * 16 + j, none⟩ = some v from fun V hV j v hv => (Below.cell (p := ⟨g, off + k * 16 + j, none⟩) (HBW.out.trans (hV.mono HBW.out.size)) hgl).trans (hc0 j v (by
      have hj : j < 12 := by
        have := (Array.getElem?_eq_some_iff.1 hv).1
        rw [thArr_size z.B z.d HTZ.out.regs] at this
        exact this
      exact (pg_th z HTZ.out.regs j hj).trans hv)))
    have HSZ := Lib.hid (show (Tryd.prog.info? 56).map (·.size) = some (thArr z.x.th z.B z.d).size by rw [thArr_size z.B z.d HTZ.out.regs]; exact Tryd.infoTh)
    have HS12 := Lib.hid (show (12 : Nat) = (thArr z.x.th z.B z.d).size from (thArr_size z.B z.d HTZ.out.regs).symm)
    have HK := Lib.hid (And.intro hz (And.intro hnd hgo))
    have HAP := Lib.hid ha
    have hn := HN.out
    have hn100 : n ≤ 100 := by have := hR.few; omega
    have hkn : k < n := by omega
    have c2 : V1.cell? ⟨q, 2, none⟩ = some (.slice (some ⟨g, off, none⟩) n c) := (mv_cells (H1.out.below HBV1.out H1.out.lt)).2.2.1
    have ev1 : V1.cell? ⟨q + 1, 1, none⟩ = some (.int .i64 ((k : Int) + 1)) := ((H2.out.below HBV1.out H2.out.lt).cell 1).trans rfl
    obtain ⟨X, HX⟩ : ∃ X, Hid (X = (V1.alloc (.cells #[.int .i64 0, .int .i64 0, .int .i64 0, .int .i64 0, .int .i64 0, .int .i64 0, .int .i64 0, .int .i64 0, .int .i64 0, .int .i64 0, .slice none 0 0, .bool false] 56)).setRow V1.heap.size (thArr z.x.th z.B z.d)) := ⟨_, Lib.hid rfl⟩
    obtain ⟨q3, HQ3⟩ : ∃ x, Hid (x = V1.heap.size) := ⟨_, Lib.hid rfl⟩
    have HBX := Lib.hid (show Below W.heap.size W X by rw [HX.out]; exact below_setRow (HBV1.out.alloc HBV1.out.size _) HBV1.out.size (HBV1.out.alloc HBV1.out.size _).size _)
    have HX3 := Lib.hid (show Blk X q3 56 (thArr z.x.th z.B z.d) by rw [HX.out, HQ3.out]; exact (Blk.new V1 _ _).setRow _)
    have hx := HX.out
    have hq3 := HQ3.out
    clear HZE
    clear hgm hkM hk hz hzm hnd hk1 hm1 ei hins hrun hgl hc0 ha hgo hn
    go_upto_region 4 with (first | (refine wpList_load_cellsW (by rfl) 56 _ rfl g (off + k * 16) rfl (thArr z.x.th z.B z.d) _ (HGC.out V1 HBV1.out) Tryd.underlying56 rfl HSZ.out ?_) | (refine wpList_store_row rfl 56 _ _ rfl V1.heap.size (thArr z.x.th z.B z.d) rfl rfl 56 _ (Blk.new V1 _ _) HSZ.out HS12.out (thArr_one _ _ _) ?_; rw [← hx, ← hq3]; clear hx hq3))
    clear c2 ev1
    obtain ⟨tf, HTF⟩ : ∃ x, Hid (x = z.x.th.fn) := ⟨_, Lib.hid rfl⟩
    obtain ⟨tp, HTP⟩ : ∃ x, Hid (x = z.x.th.pc) := ⟨_, Lib.hid rfl⟩
    have t0 : X.cell? ⟨q3, 0, none⟩ = some (.int .i64 tf) := by rw [HTF.out]; exact (HX3.out.cell 0).trans (thArr_0 _ _)
    have t1 : X.cell? ⟨q3, 1, none⟩ = some (.int .i64 tp) := by rw [HTP.out]; exact (HX3.out.cell 1).trans (thArr_1 _ _)
    have e2 : X.cell? ⟨q + 1, 2, none⟩ = some (.int .i64 fn) := ((H2.out.below HBX.out H2.out.lt).cell 2).trans rfl
    have e3 : X.cell? ⟨q + 1, 3, none⟩ = some (.int .i64 pc) := ((H2.out.below HBX.out H2.out.lt).cell 3).trans rfl
    have HKN := Lib.hid (show ((k : Int) + 1 - 1).toNat = k by omega)
    have HD0 := Lib.hid (show doP fs M ⟨kind, k + 1, fn, pc, en⟩ = if tf = fn ∧ tp = pc then (if kind = 2 then if commitsP M (k + 1) k (insAt fs fn pc) = true then commitP fs M (k + 1) k (insAt fs fn pc) en else (M, false) else if kind = 1 ∧ en = 0 ∧ beginsP M k (insAt fs fn pc) = true then (beginM M (k + 1) k (insAt fs fn pc), true) else (M, false)) else (M, false) by
      unfold doP
      simp only
      rw [if_pos HAP.out, HKN.out, HK.out.2.2, ← HTF.out, ← HTP.out])
    by_cases hf1 : tf = fn
    · by_cases hf2 : tp = pc
      · subst hf1 hf2
        have HD1 := Lib.hid (show doP fs M ⟨kind, k + 1, tf, tp, en⟩ = (if kind = 2 then if commitsP M (k + 1) k i = true then commitP fs M (k + 1) k i en else (M, false) else if kind = 1 ∧ en = 0 ∧ beginsP M k i = true then (beginM M (k + 1) k i, true) else (M, false)) by
          have hi : insAt fs tf tp = i := by rw [HIE.out, HTF.out, HTP.out]
          rw [HD0.out, if_pos ⟨rfl, rfl⟩, hi])
        have HAT := Lib.hid (rAt_any z.x.th F z.B fc z.d fs X HR.out.prog.2 (HR.out.prog.1.step (HBW.out.trans (HBX.out.mono HBW.out.size))) (HTZ.out.step (HBW.out.trans (HBX.out.mono HBW.out.size))) HFZ.out)
        simp only [HK.out.2.1, Bool.false_eq_true, if_false, ← HIE.out, Bool.not_false] at HAT
        unfold insArr at HAT
        have c0 : X.cell? ⟨q, 0, none⟩ = some (.slice F fs.length fc) := (mv_cells (H1.out.below HBX.out H1.out.lt)).1
        go_upto_region 6 with (fail)
        go_upto_region 7 with (first | (refine wpList_load_rowW (by rfl) 56 _ rfl q3 rfl 56 (thArr z.x.th z.B z.d) (0, 0) _ HX3.out Tryd.underlying56 rfl HSZ.out ?_) | (go_at_call 38; refine HAT.out.mono ?_; rintro e V2 ⟨rfl, hb2⟩; have HB2 := Lib.hid (show Below W.heap.size W V2 from HBX.out.trans (hb2.mono HBX.out.size)); clear hb2))
        obtain ⟨Y, HY⟩ : ∃ X, Hid (X = V2.alloc (.cells #[.int .i64 i.op, .int .i64 i.a, .int .i64 i.b, .int .i64 i.c, .int .i64 i.n] 64)) := ⟨_, Lib.hid rfl⟩
        obtain ⟨q4, HQ4⟩ : ∃ x, Hid (x = V2.heap.size) := ⟨_, Lib.hid rfl⟩
        have HBY := Lib.hid (show Below W.heap.size W Y by rw [HY.out]; exact HB2.out.alloc HB2.out.size _)
        have HI4 := Lib.hid (show Blk Y q4 64 (insArr i) by rw [HY.out, HQ4.out]; exact Blk.new V2 _ _)
        rw [← HY.out, ← HQ4.out]
        clear t0 t1 e2 e3 c0
        have y0 : Y.cell? ⟨q + 1, 0, none⟩ = some (.int .i64 kind) := ((H2.out.below HBY.out H2.out.lt).cell 0).trans rfl
        have y1 : Y.cell? ⟨q + 1, 1, none⟩ = some (.int .i64 ((k : Int) + 1)) := ((H2.out.below HBY.out H2.out.lt).cell 1).trans rfl
        have j0 : Y.cell? ⟨q4, 0, none⟩ = some (.int .i64 i.op) := (HI4.out.cell 0).trans rfl
        have j1 : Y.cell? ⟨q4, 1, none⟩ = some (.int .i64 i.a) := (HI4.out.cell 1).trans rfl
        have j2 : Y.cell? ⟨q4, 2, none⟩ = some (.int .i64 i.b) := (HI4.out.cell 2).trans rfl
        have j3 : Y.cell? ⟨q4, 3, none⟩ = some (.int .i64 i.c) := (HI4.out.cell 3).trans rfl
        have j4 : Y.cell? ⟨q4, 4, none⟩ = some (.int .i64 i.n) := (HI4.out.cell 4).trans rfl
        have HBEG := Lib.hid (begin_any27 (c := c) (nf := fs.length) (fc := fc) (gs := M.gs) (ho := M.holder) (ow := M.owner) (HR.out.step (HBW.out.trans (HBY.out.mono HBW.out.size))) HN.out k z HK.out.1 i a HAE.out HA8.out)
        obtain ⟨rs1, ho1, ow1, b1, HWR⟩ : ∃ a b c d, Hid (worldR rs M.holder M.owner ((k : Int) + 1) k z i.op = (a, b, c, d)) := ⟨_, _, _, _, Lib.hid rfl⟩
        obtain ⟨rs2, ans, b2, HAR⟩ : ∃ a' b' c', Hid (asksR rs1 ho1 M.gs ((k : Int) + 1) k (z.x.th.regs.getD a 0) i = (a', b', c')) := ⟨_, _, _, Lib.hid rfl⟩
        have HCOM := Lib.hid (rcommit_any27 (c := c) (fc := fc) (gs := M.gs) (ho := M.holder) (ow := M.owner) (HR.out.step (HBW.out.trans (HBY.out.mono HBW.out.size))) HN.out HGS.out k z HK.out.1 HK.out.2.1 i a HAE.out HA8.out HWR.out HAR.out)
        have HBQ := Lib.hid (beg_eq HR.out.hl HK.out.1 i a HAE.out).1
        rw [← HN.out] at HBQ
        rw [HBQ.out] at HBEG
        have HCQ := Lib.hid (com_eq HR.out.hl HK.out.1 i a HAE.out HWR.out HAR.out).1
        unfold insArr at HBEG HCOM
        clear HAT
        by_cases hk1 : kind = 1
        · subst hk1
          have HD2 := Lib.hid (show doP fs M ⟨1, k + 1, tf, tp, en⟩ = (if en = 0 ∧ beginsP M k i = true then (beginM M (k + 1) k i, true) else (M, false)) by
            rw [HD1.out, if_neg (by decide)]
            by_cases hx : en = 0 ∧ beginsP M k i = true
            · rw [if_pos ⟨rfl, hx⟩, if_pos hx]
            · rw [if_neg (fun h => hx h.2), if_neg hx])
          obtain ⟨bb, HBB⟩ : ∃ x, Hid (x = beginsP M k i) := ⟨_, Lib.hid rfl⟩
          rw [← HBB.out] at HBEG HD2
          go_upto_region 9 with (fail)
          go_wp2_with (refine wpList_load_row rfl 47 _ rfl (q) rfl 47 (MV F fs.length fc M.gs (some ⟨g, off, none⟩) n c M.holder M.owner) (0, 0) _ (H1.out.below HBY.out H1.out.lt) Tryd.underlying47 rfl (mv_info _ _ _ _ _ _ _ _ _) ?_)
          refine HBEG.out.mono ?_
          rintro e V3 ⟨A', n', c', ho', ow', rfl, hb3, hok⟩
          have HB3 := Lib.hid (show Below W.heap.size W V3 from HBY.out.trans (hb3.mono HBY.out.size))
          have HB3L := Lib.hid hb3
          have HOK := Lib.hid hok
          clear hb3 hok y0 y1 j0 j1 j2 j3 j4 HBEG HCOM
          go_upto_region 10 with (refine wpList_store_row rfl 47 _ _ rfl V3.heap.size (MV F fs.length fc M.gs A' n' c' ho' ow') rfl rfl 47 _ (Blk.new V3 _ _) (mv_info _ _ _ _ _ _ _ _ _) (mv_size _ _ _ _ _ _ _ _ _).symm (mv_one _ _ _ _ _ _ _ _ _) ?_)
          obtain ⟨Y2, HY2⟩ : ∃ X, Hid (X = (V3.alloc (.cells #[.slice none 0 0, .int .i64 0, .slice none 0 0, .int .i64 0, .int .i64 0] 47)).setRow V3.heap.size (MV F fs.length fc M.gs A' n' c' ho' ow')) := ⟨_, Lib.hid rfl⟩
          obtain ⟨q5, HQ5⟩ : ∃ x, Hid (x = V3.heap.size) := ⟨_, Lib.hid rfl⟩
          have HBY2 := Lib.hid (show Below W.heap.size W Y2 by rw [HY2.out]; exact below_setRow (HB3.out.alloc HB3.out.size _) HB3.out.size (HB3.out.alloc HB3.out.size _).size _)
          have HK5 := Lib.hid (show Blk Y2 q5 47 (MV F fs.length fc M.gs A' n' c' ho' ow') by rw [HY2.out, HQ5.out]; exact (Blk.new V3 _ _).setRow _)
          have HB3Y := Lib.hid (show Below V3.heap.size V3 Y2 by rw [HY2.out]; exact below_setRow ((Below.refl _ V3).alloc (Nat.le_refl _) _) (Nat.le_refl _) (by rw [World.size_alloc]; omega) _)
          rw [← HY2.out, ← HQ5.out]
          have n4 : Y2.cell? ⟨q + 1, 4, none⟩ = some (.int .i64 en) := ((H2.out.below HBY2.out H2.out.lt).cell 4).trans rfl
          cases bb with
          | false =>
            have HDP := Lib.hid (show doP fs M ⟨1, k + 1, tf, tp, en⟩ = (M, false) by rw [HD2.out, if_neg (fun h => by cases h.2)])
            go_upto_region 16 with (fail)
            go_wp2_with (first | (refine wpList_load_row rfl 47 _ rfl (q) rfl 47 (MV F fs.length fc M.gs (some ⟨g, off, none⟩) n c M.holder M.owner) (0, 0) _ (H1.out.below HBY2.out H1.out.lt) Tryd.underlying47 rfl (mv_info _ _ _ _ _ _ _ _ _) ?_) | (refine wpList_store_row rfl 47 _ _ rfl (q + 2) (MV F fs.length fc M.gs (some ⟨g, off, none⟩) n c M.holder M.owner) rfl rfl 47 _ (H3.out.below HBY2.out H3.out.lt) (mv_info _ _ _ _ _ _ _ _ _) (mv_size _ _ _ _ _ _ _ _ _).symm (mv_one _ _ _ _ _ _ _ _ _) ?_))
            refine bodyPost_ret (results_cell2 Tryd.results19 _ _ (q + 2) 47 (MV F fs.length fc M.gs (some ⟨g, off, none⟩) n c M.holder M.owner) (0, 0) _ rfl (Blk.setRow (H3.out.below HBY2.out H3.out.lt) _) Tryd.underlying47 rfl (mv_info _ _ _ _ _ _ _ _ _)) rfl ?_
            rw [HDP.out]
            exact ⟨some ⟨g, off, none⟩, c, rs, by rw [← HN.out]; first | done | rfl, below_setRow (HBW.out.trans (HBY2.out.mono HBW.out.size)) (by rw [HQ.out]; omega) (HBW.out.trans (HBY2.out.mono HBW.out.size)).size _, HR.out.step (below_setRow (HBW.out.trans (HBY2.out.mono HBW.out.size)) (by rw [HQ.out]; omega) (HBW.out.trans (HBY2.out.mono HBW.out.size)).size _), old_self _ _, fun _ h => .inl h⟩
          | true =>
            by_cases hen : en = 0
            · subst hen
              have HDP := Lib.hid (show doP fs M ⟨1, k + 1, tf, tp, 0⟩ = (beginM M (k + 1) k i, true) by rw [HD2.out, if_pos ⟨rfl, rfl⟩])
              go_upto_region 11 with (fail)
              go_wp2_with (first | (refine wpList_load_row rfl 47 _ rfl (q5) rfl 47 (MV F fs.length fc M.gs A' n' c' ho' ow') (0, 0) _ HK5.out Tryd.underlying47 rfl (mv_info _ _ _ _ _ _ _ _ _) ?_) | (refine wpList_store_row rfl 47 _ _ rfl (q + 2) (MV F fs.length fc M.gs A' n' c' ho' ow') rfl rfl 47 _ (H3.out.below HBY2.out H3.out.lt) (mv_info _ _ _ _ _ _ _ _ _) (mv_size _ _ _ _ _ _ _ _ _).symm (mv_one _ _ _ _ _ _ _ _ _) ?_))
              refine bodyPost_ret (results_cell2 Tryd.results19 _ _ (q + 2) 47 (MV F fs.length fc M.gs A' n' c' ho' ow') (0, 0) _ rfl (Blk.setRow (H3.out.below HBY2.out H3.out.lt) _) Tryd.underlying47 rfl (mv_info _ _ _ _ _ _ _ _ _)) rfl ?_
              rw [HDP.out]
              obtain ⟨hn', hho, how, hfa, hrow⟩ := HOK.out (by trivial)
              have hbr := beg_ris HR.out HK.out.1 i a HAE.out (w' := (Y2.setRow (q + 2) (MV F fs.length fc M.gs A' n' c' ho' ow'))) (HBW.out.trans (HBY2.out.mono HBW.out.size) |> fun h => below_setRow h (by rw [HQ.out]; omega) h.size _) HBB.out.symm (fin_row HB3Y.out hrow (fun x hx => by have := hfa x hx; have := (H3.out.below HBY.out H3.out.lt).lt; omega) _)
              refine ⟨A', c', _, ?_, (HBW.out.trans (HBY2.out.mono HBW.out.size) |> fun h => below_setRow h (by rw [HQ.out]; omega) h.size _), hbr.1, hbr.2.2.2, fun b hb => .inr (Nat.le_trans (HBW.out.trans (HBY.out.mono HBW.out.size)).size (hfa b hb))⟩
              show _ = Ending.returned (.tuple #[.agg (MV F fs.length fc M.gs A' _ c' (beginM M (k + 1) k i).holder (beginM M (k + 1) k i).owner), .bool true])
              rw [hbr.2.1, hbr.2.2.1, ← hn', ← hho, ← how]
              rfl
            · have n0 : (en == 0) = false := by simpa using hen
              have HDP := Lib.hid (show doP fs M ⟨1, k + 1, tf, tp, en⟩ = (M, false) by rw [HD2.out, if_neg (fun h => hen h.1)])
              clear hen
              go_upto_region 16 with (fail)
              go_wp2_with (first | (refine wpList_load_row rfl 47 _ rfl (q) rfl 47 (MV F fs.length fc M.gs (some ⟨g, off, none⟩) n c M.holder M.owner) (0, 0) _ (H1.out.below HBY2.out H1.out.lt) Tryd.underlying47 rfl (mv_info _ _ _ _ _ _ _ _ _) ?_) | (refine wpList_store_row rfl 47 _ _ rfl (q + 2) (MV F fs.length fc M.gs (some ⟨g, off, none⟩) n c M.holder M.owner) rfl rfl 47 _ (H3.out.below HBY2.out H3.out.lt) (mv_info _ _ _ _ _ _ _ _ _) (mv_size _ _ _ _ _ _ _ _ _).symm (mv_one _ _ _ _ _ _ _ _ _) ?_))
              refine bodyPost_ret (results_cell2 Tryd.results19 _ _ (q + 2) 47 (MV F fs.length fc M.gs (some ⟨g, off, none⟩) n c M.holder M.owner) (0, 0) _ rfl (Blk.setRow (H3.out.below HBY2.out H3.out.lt) _) Tryd.underlying47 rfl (mv_info _ _ _ _ _ _ _ _ _)) rfl ?_
              rw [HDP.out]
              exact ⟨some ⟨g, off, none⟩, c, rs, by rw [← HN.out]; first | done | rfl, below_setRow (HBW.out.trans (HBY2.out.mono HBW.out.size)) (by rw [HQ.out]; omega) (HBW.out.trans (HBY2.out.mono HBW.out.size)).size _, HR.out.step (below_setRow (HBW.out.trans (HBY2.out.mono HBW.out.size)) (by rw [HQ.out]; omega) (HBW.out.trans (HBY2.out.mono HBW.out.size)).size _), old_self _ _, fun _ h => .inl h⟩
        · have k1 : (kind == 1) = false := by simpa using hk1
          by_cases hk2 : kind = 2
          · subst hk2
            have HD2 := Lib.hid (show doP fs M ⟨2, k + 1, tf, tp, en⟩ = (if commitsP M (k + 1) k i = true then commitP fs M (k + 1) k i en else (M, false)) by rw [HD1.out, if_pos rfl])
            rw [HCQ.out] at HD2
            obtain ⟨bb, HBB⟩ : ∃ x, Hid (x = (b1 && b2)) := ⟨_, Lib.hid rfl⟩
            rw [← HBB.out] at HCOM HD2
            clear hk1
            go_upto_region 13 with (fail)
            go_wp2_with (refine wpList_load_row rfl 47 _ rfl (q) rfl 47 (MV F fs.length fc M.gs (some ⟨g, off, none⟩) n c M.holder M.owner) (0, 0) _ (H1.out.below HBY.out H1.out.lt) Tryd.underlying47 rfl (mv_info _ _ _ _ _ _ _ _ _) ?_)
            refine HCOM.out.mono ?_
            rintro e V3 ⟨A', n', c', ho', ow', told, rfl, hb3, hok⟩
            have HB3 := Lib.hid (show Below W.heap.size W V3 from HBY.out.trans (hb3.mono HBY.out.size))
            have HB3L := Lib.hid hb3
            have HOK := Lib.hid hok
            clear hb3 hok y0 y1 j0 j1 j2 j3 j4 HBEG HCOM
            go_upto_region 14 with (refine wpList_store_row rfl 47 _ _ rfl V3.heap.size (MV F fs.length fc M.gs A' n' c' ho' ow') rfl rfl 47 _ (Blk.new V3 _ _) (mv_info _ _ _ _ _ _ _ _ _) (mv_size _ _ _ _ _ _ _ _ _).symm (mv_one _ _ _ _ _ _ _ _ _) ?_)
            obtain ⟨Y2, HY2⟩ : ∃ X, Hid (X = (V3.alloc (.cells #[.slice none 0 0, .int .i64 0, .slice none 0 0, .int .i64 0, .int .i64 0] 47)).setRow V3.heap.size (MV F fs.length fc M.gs A' n' c' ho' ow')) := ⟨_, Lib.hid rfl⟩
            obtain ⟨q5, HQ5⟩ : ∃ x, Hid (x = V3.heap.size) := ⟨_, Lib.hid rfl⟩
            have HBY2 := Lib.hid (show Below W.heap.size W Y2 by rw [HY2.out]; exact below_setRow (HB3.out.alloc HB3.out.size _) HB3.out.size (HB3.out.alloc HB3.out.size _).size _)
            have HK5 := Lib.hid (show Blk Y2 q5 47 (MV F fs.length fc M.gs A' n' c' ho' ow') by rw [HY2.out, HQ5.out]; exact (Blk.new V3 _ _).setRow _)
            have HB3Y := Lib.hid (show Below V3.heap.size V3 Y2 by rw [HY2.out]; exact below_setRow ((Below.refl _ V3).alloc (Nat.le_refl _) _) (Nat.le_refl _) (by rw [World.size_alloc]; omega) _)
            rw [← HY2.out, ← HQ5.out]
            have n4 : Y2.cell? ⟨q + 1, 4, none⟩ = some (.int .i64 en) := ((H2.out.below HBY2.out H2.out.lt).cell 4).trans rfl
            cases bb with
            | false =>
              have HDP := Lib.hid (show doP fs M ⟨2, k + 1, tf, tp, en⟩ = (M, false) by rw [HD2.out, if_neg (by decide)])
              go_upto_region 16 with (fail)
              go_wp2_with (first | (refine wpList_load_row rfl 47 _ rfl (q) rfl 47 (MV F fs.length fc M.gs (some ⟨g, off, none⟩) n c M.holder M.owner) (0, 0) _ (H1.out.below HBY2.out H1.out.lt) Tryd.underlying47 rfl (mv_info _ _ _ _ _ _ _ _ _) ?_) | (refine wpList_store_row rfl 47 _ _ rfl (q + 2) (MV F fs.length fc M.gs (some ⟨g, off, none⟩) n c M.holder M.owner) rfl rfl 47 _ (H3.out.below HBY2.out H3.out.lt) (mv_info _ _ _ _ _ _ _ _ _) (mv_size _ _ _ _ _ _ _ _ _).symm (mv_one _ _ _ _ _ _ _ _ _) ?_))
              refine bodyPost_ret (results_cell2 Tryd.results19 _ _ (q + 2) 47 (MV F fs.length fc M.gs (some ⟨g, off, none⟩) n c M.holder M.owner) (0, 0) _ rfl (Blk.setRow (H3.out.below HBY2.out H3.out.lt) _) Tryd.underlying47 rfl (mv_info _ _ _ _ _ _ _ _ _)) rfl ?_
              rw [HDP.out]
              exact ⟨some ⟨g, off, none⟩, c, rs, by rw [← HN.out]; first | done | rfl, below_setRow (HBW.out.trans (HBY2.out.mono HBW.out.size)) (by rw [HQ.out]; omega) (HBW.out.trans (HBY2.out.mono HBW.out.size)).size _, HR.out.step (below_setRow (HBW.out.trans (HBY2.out.mono HBW.out.size)) (by rw [HQ.out]; omega) (HBW.out.trans (HBY2.out.mono HBW.out.size)).size _), old_self _ _, fun _ h => .inl h⟩
            | true =>
              obtain ⟨htold, B', d', z2, hz2, hn2, hrow, hth, hfa, hfb, hho, how⟩ := HOK.out (by trivial)
              by_cases hen : told = en
              · have n0 : (told == en) = true := by simpa using hen
                have hcr := com_ris HR.out HGS.out HK.out.1 i a HAE.out HF10.out HWR.out HAR.out HBB.out.symm (A' := A') (w' := (Y2.setRow (q + 2) (MV F fs.length fc M.gs A' n' c' ho' ow'))) (HBW.out.trans (HBY2.out.mono HBW.out.size) |> fun h => below_setRow h (by rw [HQ.out]; omega) h.size _) hz2 (fin_row HB3Y.out hrow (fun x hx => by have := hfa x hx; have := (H3.out.below HBY.out H3.out.lt).lt; omega) _) (fin_thok HB3Y.out hth (fun x hx => by have := hfb x hx; have := (H3.out.below HBY.out H3.out.lt).lt; omega) _) en (htold.symm.trans hen) (fun x hx => Nat.le_trans (HBW.out.trans (HBY.out.mono HBW.out.size)).size (hfb x hx))
                have HDP := Lib.hid (show doP fs M ⟨2, k + 1, tf, tp, en⟩ = ((commitP fs M (k + 1) k i en).1, true) by rw [HD2.out, if_pos rfl]; exact Prod.ext rfl hcr.2.1)
                have HCR := Lib.hid hcr
                have HFA := Lib.hid hfa
                have HHW := Lib.hid (And.intro hn2 (And.intro hho how))
                clear hen htold hz2 hn2 hrow hth hfa hfb hho how hcr
                go_upto_region 15 with (fail)
                go_wp2_with (first | (refine wpList_load_row rfl 47 _ rfl (q5) rfl 47 (MV F fs.length fc M.gs A' n' c' ho' ow') (0, 0) _ HK5.out Tryd.underlying47 rfl (mv_info _ _ _ _ _ _ _ _ _) ?_) | (refine wpList_store_row rfl 47 _ _ rfl (q + 2) (MV F fs.length fc M.gs A' n' c' ho' ow') rfl rfl 47 _ (H3.out.below HBY2.out H3.out.lt) (mv_info _ _ _ _ _ _ _ _ _) (mv_size _ _ _ _ _ _ _ _ _).symm (mv_one _ _ _ _ _ _ _ _ _) ?_))
                refine bodyPost_ret (results_cell2 Tryd.results19 _ _ (q + 2) 47 (MV F fs.length fc M.gs A' n' c' ho' ow') (0, 0) _ rfl (Blk.setRow (H3.out.below HBY2.out H3.out.lt) _) Tryd.underlying47 rfl (mv_info _ _ _ _ _ _ _ _ _)) rfl ?_
                rw [HDP.out]
                refine ⟨A', c', _, ?_, (HBW.out.trans (HBY2.out.mono HBW.out.size) |> fun h => below_setRow h (by rw [HQ.out]; omega) h.size _), HCR.out.2.2.1, HCR.out.2.2.2.2.2, fun b hb => .inr (Nat.le_trans (HBW.out.trans (HBY.out.mono HBW.out.size)).size (HFA.out b hb))⟩
                show _ = Ending.returned (.tuple #[.agg (MV F fs.length fc (commitP fs M (k + 1) k i en).1.gs A' _ c' (commitP fs M (k + 1) k i en).1.holder (commitP fs M (k + 1) k i en).1.owner), .bool true])
                rw [HCR.out.2.2.2.1, HCR.out.2.2.2.2.1, List.length_set, ← HHW.out.1, ← HHW.out.2.1, ← HHW.out.2.2, commitP_gs]
                rfl
              · have n0 : (told == en) = false := by simpa using hen
                have HDP := Lib.hid (show doP fs M ⟨2, k + 1, tf, tp, en⟩ = (M, false) by
                  rw [HD2.out, if_pos rfl]
                  have hde := ((com_eq HR.out.hl HK.out.1 i a HAE.out HWR.out HAR.out).2 HBB.out.symm).1
                  unfold commitP
                  simp only
                  rw [hde, HK.out.2.2, if_neg (by rw [← htold]; exact hen)])
                clear hen htold hz2 hn2 hrow hth hfa hfb hho how
                go_upto_region 16 with (fail)
                go_wp2_with (first | (refine wpList_load_row rfl 47 _ rfl (q) rfl 47 (MV F fs.length fc M.gs (some ⟨g, off, none⟩) n c M.holder M.owner) (0, 0) _ (H1.out.below HBY2.out H1.out.lt) Tryd.underlying47 rfl (mv_info _ _ _ _ _ _ _ _ _) ?_) | (refine wpList_store_row rfl 47 _ _ rfl (q + 2) (MV F fs.length fc M.gs (some ⟨g, off, none⟩) n c M.holder M.owner) rfl rfl 47 _ (H3.out.below HBY2.out H3.out.lt) (mv_info _ _ _ _ _ _ _ _ _) (mv_size _ _ _ _ _ _ _ _ _).symm (mv_one _ _ _ _ _ _ _ _ _) ?_))
                refine bodyPost_ret (results_cell2 Tryd.results19 _ _ (q + 2) 47 (MV F fs.length fc M.gs (some ⟨g, off, none⟩) n c M.holder M.owner) (0, 0) _ rfl (Blk.setRow (H3.out.below HBY2.out H3.out.lt) _) Tryd.underlying47 rfl (mv_info _ _ _ _ _ _ _ _ _)) rfl ?_
                rw [HDP.out]
                exact ⟨some ⟨g, off, none⟩, c, rs, by rw [← HN.out]; first | done | rfl, below_setRow (HBW.out.trans (HBY2.out.mono HBW.out.size)) (by rw [HQ.out]; omega) (HBW.out.trans (HBY2.out.mono HBW.out.size)).size _, HR.out.step (below_setRow (HBW.out.trans (HBY2.out.mono HBW.out.size)) (by rw [HQ.out]; omega) (HBW.out.trans (HBY2.out.mono HBW.out.size)).size _), old_self _ _, fun _ h => .inl h⟩
          · have k2 : (kind == 2) = false := by simpa using hk2
            have HDP := Lib.hid (show doP fs M ⟨kind, k + 1, tf, tp, en⟩ = (M, false) by rw [HD1.out, if_neg hk2, if_neg (fun h => hk1 h.1)])
            clear hk1 hk2
            go_upto_region 16 with (fail)
            go_wp2_with (first | (refine wpList_load_row rfl 47 _ rfl (q) rfl 47 (MV F fs.length fc M.gs (some ⟨g, off, none⟩) n c M.holder M.owner) (0, 0) _ (H1.out.below HBY.out H1.out.lt) Tryd.underlying47 rfl (mv_info _ _ _ _ _ _ _ _ _) ?_) | (refine wpList_store_row rfl 47 _ _ rfl (q + 2) (MV F fs.length fc M.gs (some ⟨g, off, none⟩) n c M.holder M.owner) rfl rfl 47 _ (H3.out.below HBY.out H3.out.lt) (mv_info _ _ _ _ _ _ _ _ _) (mv_size _ _ _ _ _ _ _ _ _).symm (mv_one _ _ _ _ _ _ _ _ _) ?_))
            refine bodyPost_ret (results_cell2 Tryd.results19 _ _ (q + 2) 47 (MV F fs.length fc M.gs (some ⟨g, off, none⟩) n c M.holder M.owner) (0, 0) _ rfl (Blk.setRow (H3.out.below HBY.out H3.out.lt) _) Tryd.underlying47 rfl (mv_info _ _ _ _ _ _ _ _ _)) rfl ?_
            rw [HDP.out]
            exact ⟨some ⟨g, off, none⟩, c, rs, by rw [← HN.out]; first | done | rfl, below_setRow (HBW.out.trans (HBY.out.mono HBW.out.size)) (by rw [HQ.out]; omega) (HBW.out.trans (HBY.out.mono HBW.out.size)).size _, HR.out.step (below_setRow (HBW.out.trans (HBY.out.mono HBW.out.size)) (by rw [HQ.out]; omega) (HBW.out.trans (HBY.out.mono HBW.out.size)).size _), old_self _ _, fun _ h => .inl h⟩
      · have n1 : (tf == fn) = true := by simpa using hf1
        have n2 : (tf != fn) = false := by simpa using hf1
        have n3 : (tp == pc) = false := by simpa using hf2
        have n4 : (tp != pc) = true := by simpa using hf2
        have HDP := Lib.hid (show doP fs M ⟨kind, k + 1, fn, pc, en⟩ = (M, false) by rw [HD0.out, if_neg (fun h => hf2 h.2)])
        clear hf1 hf2
        go_upto_region 5 with (fail)
        go_wp2_with (first | (refine wpList_load_row rfl 47 _ rfl (q) rfl 47 (MV F fs.length fc M.gs (some ⟨g, off, none⟩) n c M.holder M.owner) (0, 0) _ (H1.out.below HBX.out H1.out.lt) Tryd.underlying47 rfl (mv_info _ _ _ _ _ _ _ _ _) ?_) | (refine wpList_store_row rfl 47 _ _ rfl (q + 2) (MV F fs.length fc M.gs (some ⟨g, off, none⟩) n c M.holder M.owner) rfl rfl 47 _ (H3.out.below HBX.out H3.out.lt) (mv_info _ _ _ _ _ _ _ _ _) (mv_size _ _ _ _ _ _ _ _ _).symm (mv_one _ _ _ _ _ _ _ _ _) ?_))
        refine bodyPost_ret (results_cell2 Tryd.results19 _ _ (q + 2) 47 (MV F fs.length fc M.gs (some ⟨g, off, none⟩) n c M.holder M.owner) (0, 0) _ rfl (Blk.setRow (H3.out.below HBX.out H3.out.lt) _) Tryd.underlying47 rfl (mv_info _ _ _ _ _ _ _ _ _)) rfl ?_
        rw [HDP.out]
        exact ⟨some ⟨g, off, none⟩, c, rs, by rw [← HN.out]; first | done | rfl, below_setRow (HBW.out.trans (HBX.out.mono HBW.out.size)) (by rw [HQ.out]; omega) (HBW.out.trans (HBX.out.mono HBW.out.size)).size _, HR.out.step (below_setRow (HBW.out.trans (HBX.out.mono HBW.out.size)) (by rw [HQ.out]; omega) (HBW.out.trans (HBX.out.mono HBW.out.size)).size _), old_self _ _, fun _ h => .inl h⟩
    · have n1 : (tf == fn) = false := by simpa using hf1
      have n2 : (tf != fn) = true := by simpa using hf1
      have HDP := Lib.hid (show doP fs M ⟨kind, k + 1, fn, pc, en⟩ = (M, false) by rw [HD0.out, if_neg (fun h => hf1 h.1)])
      clear hf1
      go_upto_region 5 with (fail)
      go_wp2_with (first | (refine wpList_load_row rfl 47 _ rfl (q) rfl 47 (MV F fs.length fc M.gs (some ⟨g, off, none⟩) n c M.holder M.owner) (0, 0) _ (H1.out.below HBX.out H1.out.lt) Tryd.underlying47 rfl (mv_info _ _ _ _ _ _ _ _ _) ?_) | (refine wpList_store_row rfl 47 _ _ rfl (q + 2) (MV F fs.length fc M.gs (some ⟨g, off, none⟩) n c M.holder M.owner) rfl rfl 47 _ (H3.out.below HBX.out H3.out.lt) (mv_info _ _ _ _ _ _ _ _ _) (mv_size _ _ _ _ _ _ _ _ _).symm (mv_one _ _ _ _ _ _ _ _ _) ?_))
      refine bodyPost_ret (results_cell2 Tryd.results19 _ _ (q + 2) 47 (MV F fs.length fc M.gs (some ⟨g, off, none⟩) n c M.holder M.owner) (0, 0) _ rfl (Blk.setRow (H3.out.below HBX.out H3.out.lt) _) Tryd.underlying47 rfl (mv_info _ _ _ _ _ _ _ _ _)) rfl ?_
      rw [HDP.out]
      exact ⟨some ⟨g, off, none⟩, c, rs, by rw [← HN.out]; first | done | rfl, below_setRow (HBW.out.trans (HBX.out.mono HBW.out.size)) (by rw [HQ.out]; omega) (HBW.out.trans (HBX.out.mono HBW.out.size)).size _, HR.out.step (below_setRow (HBW.out.trans (HBX.out.mono HBW.out.size)) (by rw [HQ.out]; omega) (HBW.out.trans (HBX.out.mono HBW.out.size)).size _), old_self _ _, fun _ h => .inl h⟩
  · have hf : actsP M gg = false := by simpa using ha
    have HDP := Lib.hid (show doP fs M ⟨kind, gg, fn, pc, en⟩ = (M, false) by unfold doP; rw [if_neg ha])
    rw [hf]
    clear ha hf hR
    go_upto_region 2 with (fail)
    go_wp2_with (first | (refine wpList_load_row rfl 47 _ rfl (q) rfl 47 (MV F fs.length fc M.gs A n c M.holder M.owner) (0, 0) _ (H1.out.below HBV1.out H1.out.lt) Tryd.underlying47 rfl (mv_info _ _ _ _ _ _ _ _ _) ?_) | (refine wpList_store_row rfl 47 _ _ rfl (q + 2) (MV F fs.length fc M.gs A n c M.holder M.owner) rfl rfl 47 _ (H3.out.below HBV1.out H3.out.lt) (mv_info _ _ _ _ _ _ _ _ _) (mv_size _ _ _ _ _ _ _ _ _).symm (mv_one _ _ _ _ _ _ _ _ _) ?_))
    refine bodyPost_ret (results_cell2 Tryd.results19 _ _ (q + 2) 47 (MV F fs.length fc M.gs A n c M.holder M.owner) (0, 0) _ rfl (Blk.setRow (H3.out.below HBV1.out H3.out.lt) _) Tryd.underlying47 rfl (mv_info _ _ _ _ _ _ _ _ _)) rfl ?_
    rw [HDP.out]
    exact ⟨A, c, rs, by rw [← HN.out]; first | done | rfl, below_setRow (HBW.out.trans (HBV1.out.mono HBW.out.size)) (by rw [HQ.out]; omega) (HBW.out.trans (HBV1.out.mono HBW.out.size)).size _, HR.out.step (below_setRow (HBW.out.trans (HBV1.out.mono HBW.out.size)) (by rw [HQ.out]; omega) (HBW.out.trans (HBV1.out.mono HBW.out.size)).size _), old_self _ _, fun _ h => .inl h⟩
end Go.Proofs.YtkfpnppppmccdaaDoor

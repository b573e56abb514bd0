/-
  Chapter 27, the reference's model: begin (printed by rbg27.py).
-/
import Derived.Test.YtkfpnppppmccdaaDoorAsk27
namespace Go.Proofs.YtkfpnppppmccdaaDoor
open Go.RowKit
/-- May it begin? -/
def beginsR (n : Nat) (ho ow g r op : Int) (beg : Bool) : Bool :=
  if ho ≠ 0 then false else if beg = true then false else if op = 17 ∨ op = 19 then decide (ow = 0) else if op = 20 then (thereB n r && decide (r ≠ g)) else false
/-- What begin answers. -/
def BegOut (w : World) (F : Option Addr) (nf fc : Nat) (gs : Int) (ho : Int) (rs' : List Pg) (ow1 : Int) (b : Bool) (e : Ending) (w' : World) : Prop :=
  ∃ A' n' c' ho' ow', e = .returned (.tuple #[.agg (MV F nf fc gs A' n' c' ho' ow'), .bool b]) ∧ Below w.heap.size w w' ∧ (b = true → n' = rs'.length ∧ ho' = ho ∧ ow' = ow1 ∧ (∀ x, ob A' = some x → w.heap.size ≤ x) ∧ Row w' w'.heap.size A' (rs'.flatMap pgVals))
def S2M (p : Nat) (mv : Array Value) (q : Nat) (mv' : Array Value) (w : World) : Prop := Blk w p 47 mv ∧ Blk w q 47 mv'
theorem ins_cells {w : World} {p : Nat} {i : Ins} (h : Blk w p 64 (insArr i)) : w.cell? ⟨p, 0, none⟩ = some (.int .i64 i.op) ∧ w.cell? ⟨p, 1, none⟩ = some (.int .i64 i.a) :=
  ⟨(h.cell 0).trans rfl, (h.cell 1).trans rfl⟩
set_option maxRecDepth 10000 in
set_option maxHeartbeats 8000000 in
theorem begin_any27 {w : World} {n c nf fc : Nat} {F A : Option Addr} {fs : List Fn} {M : Md} {rs : List Pg} {gs ho ow : Int} (hR : RIs w F fs M A rs) (hn : n = rs.length) (kg : Nat) (z : Pg) (hz : rs[kg]? = some z) (i : Ins) (a : Nat) (ha : i.a = a) (ha8 : a < 8) :
    Calls Tryd.prog 39 #[.agg (MV F nf fc gs A n c ho ow), .int .i64 ((kg : Int) + 1), .agg (insArr i)] w
      (BegOut w F nf fc gs ho (rs.set kg { z with x := { z.x with beg := true } }) (if i.op = 20 then ow else (kg : Int) + 1) (beginsR n ho ow (kg + 1) (z.x.th.regs.getD a 0) i.op z.x.beg)) := by
  have hkg : kg < rs.length := (List.getElem?_eq_some_iff.1 hz).1
  have hkn : kg < n := by omega
  have hn100 : n ≤ 100 := by have := hR.few; omega
  have hze : rs[kg] = z := by rw [List.getElem?_eq_getElem hkg] at hz; injection hz
  obtain ⟨g, off, rfl, hgl, hc0⟩ := pg_at hR.row hkg
  rw [hze] at hc0
  obtain ⟨bv, HBV⟩ : ∃ x, Hid (x = beginsR n ho ow (kg + 1) (z.x.th.regs.getD a 0) i.op z.x.beg) := ⟨_, Lib.hid rfl⟩
  rw [← HBV.out]
  obtain ⟨ow1, HOW1⟩ : ∃ x, Hid (x = if i.op = 20 then ow else (kg : Int) + 1) := ⟨_, Lib.hid rfl⟩
  rw [← HOW1.out]
  obtain ⟨r, HRE⟩ : ∃ r, Hid (r = z.x.th.regs.getD a 0) := ⟨_, Lib.hid rfl⟩
  rw [← HRE.out] at HBV
  obtain ⟨q, HQ⟩ : ∃ q, Hid (q = w.heap.size) := ⟨_, Lib.hid rfl⟩
  obtain ⟨U, HU⟩ : ∃ V, Hid (V = ((w.alloc (.cells (MV F nf fc gs (some ⟨g, off, none⟩) n c ho ow) 47)).alloc (.cells (insArr i) 64)).alloc (.cells #[.slice none 0 0, .int .i64 0, .slice none 0 0, .int .i64 0, .int .i64 0] 47)) := ⟨_, Lib.hid rfl⟩
  obtain ⟨q3, HQ3E⟩ : ∃ q, Hid (q = U.heap.size) := ⟨_, Lib.hid rfl⟩
  obtain ⟨X, HX⟩ : ∃ X, Hid (X = (U.alloc (.cells #[.int .i64 0, .int .i64 0, .int .i64 0, .int .i64 0, .int .i64 0, .int .i64 0, .int .i64 0, .int .i64 0, .int .i64 0, .int .i64 0, .slice none 0 0, .bool false, .bool false, .bool false, .bool false, .bool false] 77)).setRow U.heap.size (pgVals z).toArray) := ⟨_, Lib.hid rfl⟩
  have hub : Below w.heap.size w U := by rw [HU.out]; exact below3 w _ _ _
  obtain ⟨h1, h2, h3⟩ := blk_three w 47 64 47 (MV F nf fc gs (some ⟨g, off, none⟩) n c ho ow) (insArr i) #[.slice none 0 0, .int .i64 0, .slice none 0 0, .int .i64 0, .int .i64 0]
  rw [← HU.out, ← HQ.out] at h1 h2 h3
  have hl3 := h3.lt
  have HUC := Lib.hid (show ∀ j v, (pgVals z).toArray[j]? = some v → U.cell? ⟨g, off + kg * 16 + j, none⟩ = some v from fun j v hv => (Below.cell (p := ⟨g, off + kg * 16 + j, none⟩) hub hgl).trans (hc0 j v (by simpa using hv)))
  have HBX := Lib.hid (show Below w.heap.size w X by rw [HX.out]; exact below_setRow (hub.alloc hub.size _) hub.size (hub.alloc hub.size _).size _)
  have HX1 := Lib.hid (show Blk X q 47 (MV F nf fc gs (some ⟨g, off, none⟩) n c ho ow) by rw [HX.out]; exact (h1.alloc _).farRow (by omega) _)
  have HX2 := Lib.hid (show Blk X (q + 1) 64 (insArr i) by rw [HX.out]; exact (h2.alloc _).farRow (by omega) _)
  have HX3 := Lib.hid (show Blk X (q + 2) 47 #[.slice none 0 0, .int .i64 0, .slice none 0 0, .int .i64 0, .int .i64 0] by rw [HX.out]; exact (h3.alloc _).farRow (by omega) _)
  have HX4 := Lib.hid (show Blk X q3 77 (pgVals z).toArray by rw [HX.out, HQ3E.out]; exact (Blk.new U _ _).setRow _)
  have HQ3L := Lib.hid (show q + 2 < q3 by rw [HQ3E.out]; exact hl3)
  have HRX := Lib.hid (hR.step HBX.out)
  have HN := Lib.hid hn
  have HZ := Lib.hid hz
  have HIA := Lib.hid (And.intro ha ha8)
  obtain ⟨-, -, c2, c3, c4⟩ := mv_cells HX1.out
  obtain ⟨i0, i1⟩ := ins_cells HX2.out
  have y15 : X.cell? ⟨q3, 15, none⟩ = some (.bool z.x.beg) := (HX4.out.cell 15).trans rfl
  have m2 : (MV F nf fc gs (some ⟨g, off, none⟩) n c ho ow)[2]? = some (.slice (some ⟨g, off, none⟩) n c) := rfl
  have hu := HU.out
  unfold insArr at hu
  have hq := HQ.out
  have hx := HX.out
  have hqe := HQ3E.out
  clear hze
  clear hub h1 h2 h3 hl3 hc0 hgl hR hn hkg hz ha
  go_enter Tryd.func39, Tryd.ntmps39
  unfold insArr
  go_upto_region 2 with (first | (rw [← hu, ← hq]; clear hu hq; refine wpList_load_cellsW (by rfl) 77 _ rfl g (off + kg * 16) rfl (pgVals z).toArray _ HUC.out Tryd.underlying77 rfl (Tryd.infoG z) ?_) | (refine wpList_store_row rfl 77 _ _ rfl U.heap.size (pgVals z).toArray rfl rfl 77 _ (Blk.new U _ _) (Tryd.infoG z) rfl (pgArr_one z) ?_; rw [← hx, ← hqe]; clear hx hqe))
  by_cases h0 : ho = 0
  · have e0 : (ho == 0) = true := by simpa using h0
    have e0' : (ho != 0) = false := by simpa using h0
    cases hbg : z.x.beg with
    | true =>
      rw [hbg] at y15
      have HB := Lib.hid (show bv = false by rw [HBV.out, hbg]; unfold beginsR; rw [if_neg (fun h => h h0), if_pos rfl])
      clear hbg h0
      go_upto_region 3 with (fail)
      go_wp2_with (first | (refine wpList_load_row rfl 47 _ rfl (q) rfl 47 (MV F nf fc gs (some ⟨g, off, none⟩) n c ho ow) (0, 0) _ HX1.out Tryd.underlying47 rfl (mv_info _ _ _ _ _ _ _ _ _) ?_) | (refine wpList_store_row rfl 47 _ _ rfl (q + 2) (MV F nf fc gs (some ⟨g, off, none⟩) n c ho ow) rfl rfl 47 _ HX3.out (mv_info _ _ _ _ _ _ _ _ _) (mv_size _ _ _ _ _ _ _ _ _).symm (mv_one _ _ _ _ _ _ _ _ _) ?_))
      refine bodyPost_ret (results_cell2 Tryd.results39 _ _ (q + 2) 47 (MV F nf fc gs (some ⟨g, off, none⟩) n c ho ow) (0, 0) _ rfl (HX3.out.setRow _) Tryd.underlying47 rfl (mv_info _ _ _ _ _ _ _ _ _)) rfl ?_
      rw [HB.out]
      exact ⟨_, _, _, _, _, rfl, below_setRow HBX.out (by rw [HQ.out]; omega) HBX.out.size _, fun h => by cases h⟩
    | false =>
      rw [hbg] at y15 HBV
      have HB0 := Lib.hid (show bv = if i.op = 17 ∨ i.op = 19 then decide (ow = 0) else if i.op = 20 then (thereB n r && decide (r ≠ (kg : Int) + 1)) else false by rw [HBV.out]; unfold beginsR; rw [if_neg (fun h => h h0), if_neg (by decide)])
      clear hbg h0
      go_upto_region 4 with (fail)
      clear y15
      go_wp2_with (refine wpList_load_row rfl 47 _ rfl (q) rfl 47 (MV F nf fc gs (some ⟨g, off, none⟩) n c ho ow) (0, 0) _ HX1.out Tryd.underlying47 rfl (mv_info _ _ _ _ _ _ _ _ _) ?_)
      have HCP := Lib.hid (show Calls Tryd.prog 57 #[.agg (MV F nf fc gs (some ⟨g, off, none⟩) n c ho ow)] X _ from copied_any HRX.out HN.out)
      refine HCP.out.mono ?_
      rintro e w2 ⟨A1, c1, rfl, ho2, hb2⟩
      rw [show (#[.slice F nf fc, .int .i64 gs, .slice A1 n c1, .int .i64 ho, .int .i64 ow] : Array Value) = MV F nf fc gs A1 n c1 ho ow from rfl]
      have hkl : kg < rs.length := (List.getElem?_eq_some_iff.1 HZ.out).1
      have hze : rs[kg] = z := by have := HZ.out; rw [List.getElem?_eq_getElem hkl] at this; injection this
      obtain ⟨g1, rfl, hg1, hgl1, hcc, hfz, hset⟩ := own_pg ho2 HN.out hkl
      rw [hze] at hcc hset
      obtain ⟨w3, HW3⟩ : ∃ V, Hid (V = (w2.alloc (.cells #[.slice none 0 0, .int .i64 0, .slice none 0 0, .int .i64 0, .int .i64 0] 47)).setRow w2.heap.size (MV F nf fc gs (some ⟨g1, 0, none⟩) n c1 ho ow)) := ⟨_, Lib.hid rfl⟩
      obtain ⟨q4, HQ4⟩ : ∃ q, Hid (q = w2.heap.size) := ⟨_, Lib.hid rfl⟩
      have hs2 := hb2.size
      have hx1 := HX1.out.lt
      have hx2 := HX2.out.lt
      have hx3 := HX3.out.lt
      have hx4 := HX4.out.lt
      have HBC := Lib.hid (show Below X.heap.size X w3 by rw [HW3.out]; exact below_setRow (hb2.alloc hb2.size _) hb2.size (hb2.alloc hb2.size _).size _)
      have H41 := Lib.hid (HX1.out.below HBC.out HX1.out.lt)
      have H42 := Lib.hid (HX2.out.below HBC.out HX2.out.lt)
      have H43 := Lib.hid (HX3.out.below HBC.out HX3.out.lt)
      have H44 := Lib.hid (HX4.out.below HBC.out HX4.out.lt)
      have H45 := Lib.hid (show Blk w3 q4 47 (MV F nf fc gs (some ⟨g1, 0, none⟩) n c1 ho ow) by rw [HW3.out, HQ4.out]; exact (Blk.new w2 _ _).setRow _)
      have HO3 := Lib.hid (show Own w3 X.heap.size 77 16 (some ⟨g1, 0, none⟩) n c1 (rs.flatMap pgVals) by rw [HW3.out]; exact own_setRow_ne (ho2.alloc _) (fun k hk => (ho2.lt k hk).2) _)
      have HGL := Lib.hid (show X.heap.size ≤ g1 ∧ g1 < q4 ∧ q4 < w3.heap.size from ⟨hg1, by rw [HQ4.out]; exact hgl1, H45.out.lt⟩)
      have HQX := Lib.hid (show q3 < X.heap.size from hx4)
      obtain ⟨g1', hge, -, -, hcc3, hfz3, hset3⟩ := own_pg HO3.out HN.out hkl
      obtain rfl : g1 = g1' := by injection hge with hge; injection hge with hge
      rw [hze] at hcc3 hset3
      have z15 := hcc3 15 _ rfl
      have fz15 := hfz3 15
      obtain ⟨ho5, hb5⟩ := hset3 15 (.bool true) { z with x := { z.x with beg := true } } (by decide) rfl
      obtain ⟨-, -, o2, -, o4⟩ := mv_cells H45.out
      have hw3 := HW3.out
      have hq4 := HQ4.out
      clear hge hcc hfz hset hcc3 hfz3 hset3 ho2 hb2 hs2 hx1 hx2 hx3 hx4 hg1 hgl1 hkl hze HCP
      go_upto_region 5 with (refine wpList_store_row rfl 47 _ _ rfl w2.heap.size (MV F nf fc gs (some ⟨g1, 0, none⟩) n c1 ho ow) rfl rfl 47 _ (Blk.new w2 _ _) (mv_info _ _ _ _ _ _ _ _ _) (mv_size _ _ _ _ _ _ _ _ _).symm (mv_one _ _ _ _ _ _ _ _ _) ?_; rw [← hw3, ← hq4]; clear hw3 hq4)
      go_upto_region 6 with (fail)
      obtain ⟨w5, HW5⟩ : ∃ V, Hid (V = w3.setCell ⟨g1, kg * 16 + 15, none⟩ (.bool true)) := ⟨_, Lib.hid rfl⟩
      have hgx := HGL.out
      have hqx := HQX.out
      have hq3 := HQ3L.out
      rw [← HW5.out] at ho5
      have H51 := Lib.hid (show Blk w5 q 47 (MV F nf fc gs (some ⟨g, off, none⟩) n c ho ow) by rw [HW5.out]; exact H41.out.far (p := ⟨g1, kg * 16 + 15, none⟩) (by show q ≠ g1; omega) _)
      have H52 := Lib.hid (show Blk w5 (q + 1) 64 (insArr i) by rw [HW5.out]; exact H42.out.far (p := ⟨g1, kg * 16 + 15, none⟩) (by show q + 1 ≠ g1; omega) _)
      have H53 := Lib.hid (show Blk w5 (q + 2) 47 _ by rw [HW5.out]; exact H43.out.far (p := ⟨g1, kg * 16 + 15, none⟩) (by show q + 2 ≠ g1; omega) _)
      have H54 := Lib.hid (show Blk w5 q3 77 (pgVals z).toArray by rw [HW5.out]; exact H44.out.far (p := ⟨g1, kg * 16 + 15, none⟩) (by show q3 ≠ g1; omega) _)
      have H55 := Lib.hid (show Blk w5 q4 47 (MV F nf fc gs (some ⟨g1, 0, none⟩) n c1 ho ow) by rw [HW5.out]; exact H45.out.far (p := ⟨g1, kg * 16 + 15, none⟩) (by show q4 ≠ g1; omega) _)
      have HO5 := Lib.hid ho5
      have HBL5 := Lib.hid (show Below w.heap.size w w5 by rw [HW5.out]; exact (HBX.out.trans (HBC.out.mono HBX.out.size)).setCell (p := ⟨g1, kg * 16 + 15, none⟩) (by show w.heap.size ≤ g1; have := HBX.out.size; omega) _)
      obtain ⟨k0, k1⟩ := ins_cells H52.out
      rw [HIA.out.1] at k1
      have kr : w5.cell? ⟨q3, 2 + a, none⟩ = some (.int .i64 r) := by
        rw [HRE.out]
        exact (H54.out.cell (2 + a)).trans ((List.getElem?_toArray (xs := pgVals z) (i := 2 + a)).trans (pg_reg z HIA.out.2))
      obtain ⟨-, -, -, l3, l4⟩ := mv_cells H51.out
      obtain ⟨-, -, -, o3, o4⟩ := mv_cells H55.out
      have fo4 := H55.out.frozen 4
      rw [← HW5.out]
      clear hgx hqx hq3 ho5 hb5 z15 fz15 o2 i0 i1 c2 c3 c4
      have ha8 := HIA.out.2
      obtain ⟨op, ia, ib, ic, inn⟩ := i
      simp only at k0 k1 HOW1 HB0 ⊢
      by_cases hop : op = 17
      · have e17 : (17 == (17 : Int)) = true ∨ True := .inr trivial
        clear e17
        subst hop
        go_upto_region 10 with (fail)
        obtain ⟨w6, HW6⟩ : ∃ V, Hid (V = w5.setCell ⟨q4, 4, none⟩ (.int .i64 ((kg : Int) + 1))) := ⟨_, Lib.hid rfl⟩
        have h61 : Blk w6 q 47 (MV F nf fc gs (some ⟨g, off, none⟩) n c ho ow) := by rw [HW6.out]; exact H51.out.far (p := ⟨q4, 4, none⟩) (by show q ≠ q4; have := HGL.out; have := HQX.out; have := HQ3L.out; omega) _
        have h65 : Blk w6 q4 47 (MV F nf fc gs (some ⟨g1, 0, none⟩) n c1 ho ((kg : Int) + 1)) := by rw [HW6.out, ← mv_4 F nf fc gs (some ⟨g1, 0, none⟩) n c1 ho ow]; exact H55.out.set_ 4 _
        have H63 := Lib.hid (show Blk w6.drew (q + 2) 47 _ from Blk.drew (show Blk w6 (q + 2) 47 _ by rw [HW6.out]; exact H53.out.far (p := ⟨q4, 4, none⟩) (by show q + 2 ≠ q4; have := HGL.out; have := HQX.out; have := HQ3L.out; omega) _))
        have HO6 := Lib.hid (show Own w6.drew X.heap.size 77 16 (some ⟨g1, 0, none⟩) n c1 ((rs.set kg { z with x := { z.x with beg := true } }).flatMap pgVals) from World.ownsRow.drew (show Own w6 X.heap.size 77 16 (some ⟨g1, 0, none⟩) n c1 ((rs.set kg { z with x := { z.x with beg := true } }).flatMap pgVals) by rw [HW6.out]; exact HO5.out.setCell ⟨q4, 4, none⟩ _ (.inr fun e => by have h1 := HGL.out.2.1; have h4 : g1 = q4 := (by simpa [ob] using e); omega)))
        have HBL6 := Lib.hid (show Below w.heap.size w w6 by rw [HW6.out]; exact HBL5.out.setCell (p := ⟨q4, 4, none⟩) (by show w.heap.size ≤ q4; have := HGL.out; have := HBX.out.size; omega) _)
        have HS6 := Lib.hid (show S2M q4 (MV F nf fc gs (some ⟨g1, 0, none⟩) n c1 ho ((kg : Int) + 1)) q (MV F nf fc gs (some ⟨g, off, none⟩) n c ho ow) w6.drew from ⟨h65.drew, h61.drew⟩)
        rw [← HW6.out]
        have LD4 : ∀ w', S2M q4 (MV F nf fc gs (some ⟨g1, 0, none⟩) n c1 ho ((kg : Int) + 1)) q (MV F nf fc gs (some ⟨g, off, none⟩) n c ho ow) w' → (loadVar 47 ⟨q4, 0, none⟩).run Tryd.prog w' = .ok (.agg (MV F nf fc gs (some ⟨g1, 0, none⟩) n c1 ho ((kg : Int) + 1))) w' := fun w' h => run_loadVar_cells w' q4 0 _ _ _ (fun j v hv => by rw [Nat.zero_add]; exact (Blk.cell h.1 j).trans hv) Tryd.underlying47 rfl (mv_info _ _ _ _ _ _ _ _ _)
        have D4 : ∀ w', S2M q4 (MV F nf fc gs (some ⟨g1, 0, none⟩) n c1 ho ((kg : Int) + 1)) q (MV F nf fc gs (some ⟨g, off, none⟩) n c ho ow) w' → w'.cell? ⟨q, 4, none⟩ = some (.int .i64 ow) := fun w' h => (Blk.cell h.2 4).trans rfl
        clear h61 h65
        by_cases hw : ow = 0
        · have x0 : (ow == 0) = true := by simpa using hw
          have HB := Lib.hid (show bv = true by rw [HB0.out, if_pos (by decide)]; exact decide_eq_true hw)
          clear hw
          refine region_sch (S2M q4 (MV F nf fc gs (some ⟨g1, 0, none⟩) n c1 ho ((kg : Int) + 1)) q (MV F nf fc gs (some ⟨g, off, none⟩) n c ho ow)) [([0, 1, 2, 3], 4)] [5] (by kernel_rfl) (by kernel_rfl) (by kernel_rfl) (fun _ _ d _ _ h => by cases d <;> exact h) HS6.out ?_
          (try simp only [Act.put, List.setIfInBounds_toArray, List.set_cons_zero, List.set_cons_succ]); refine sch_seg ?_; simp only [pickOps, List.getElem?_toArray, List.getElem?_cons_zero, List.getElem?_cons_succ]; (repeat (first | (refine quiet_load_at (by rfl) 47 _ rfl ⟨q4, 0, none⟩ rfl (MV F nf fc gs (some ⟨g1, 0, none⟩) n c1 ho ((kg : Int) + 1)) LD4 ?_; simp only [Act.put, List.setIfInBounds_toArray, List.set_cons_zero, List.set_cons_succ]) | go_big_quiet_skip | (go_big_quiet_want; first | (go_big_quiet_op; first | go_big_quiet_on | ((first | with_reducible refine ⟨_, fun _ _ => rfl, ?_⟩); go_big_quiet_on)) | (simp (contextual := true) [go_sem, D4]; with_reducible refine ⟨_, fun _ _ => rfl, ?_⟩; go_big_quiet_on)))); refine wpQuiet_nil ?_
          clear D4 LD4
          go_wp2_with (refine wpList_store_row rfl 47 _ _ rfl (q + 2) (MV F nf fc gs (some ⟨g1, 0, none⟩) n c1 ho ((kg : Int) + 1)) rfl rfl 47 _ H63.out (mv_info _ _ _ _ _ _ _ _ _) (mv_size _ _ _ _ _ _ _ _ _).symm (mv_one _ _ _ _ _ _ _ _ _) ?_)
          refine ⟨S2M q4 (MV F nf fc gs (some ⟨g1, 0, none⟩) n c1 ho ((kg : Int) + 1)) q (MV F nf fc gs (some ⟨g, off, none⟩) n c ho ow), ⟨HS6.out.1.farRow (by have := HGL.out; have := HQX.out; have := HQ3L.out; omega) _, HS6.out.2.farRow (by omega) _⟩, fun _ h => h, ?_⟩
          (try simp only [Act.put]); refine sch_end ?_; simp only [pickOps, List.getElem?_toArray, List.getElem?_cons_zero, List.getElem?_cons_succ]; (repeat (first | go_big_quiet_skip | (go_big_quiet_want; first | (go_big_quiet_op; first | go_big_quiet_on | ((first | with_reducible refine ⟨_, fun _ _ => rfl, ?_⟩); go_big_quiet_on)) | (simp (contextual := true) [go_sem, HN]; with_reducible refine ⟨_, fun _ _ => rfl, ?_⟩; go_big_quiet_on)))); refine wpQuiet_nil ?_
          go_wp2_with fail
          refine bodyPost_ret (results_cell2 Tryd.results39 _ _ (q + 2) 47 (MV F nf fc gs (some ⟨g1, 0, none⟩) n c1 ho ((kg : Int) + 1)) (0, 0) _ rfl (H63.out.setRow _) Tryd.underlying47 rfl (mv_info _ _ _ _ _ _ _ _ _)) rfl ?_
          rw [HB.out]
          refine ⟨_, _, _, _, _, rfl, below_setRow HBL6.out.drew (by rw [HQ.out]; omega) HBL6.out.drew.size _, fun _ => ⟨by rw [List.length_set]; exact HN.out, rfl, by rw [HOW1.out]; rw [if_neg (by decide)], (fun x hx => by have h1 := HGL.out.1; have h2 := HBX.out.size; have h3 : g1 = x := (by simpa [ob] using hx); omega), ?_⟩⟩
          refine Own.rowN (base := X.heap.size) (e := 77) (c := c1) (n := n) (Own.kept HO6.out (grown_setRow _ _ _) (.inr fun e => ?_))
          have h1 := HGL.out.1
          have h2 := HQX.out
          have h3 := HQ3L.out
          have h4 : g1 = q + 2 := by simpa [ob] using e
          omega
        · have x0 : (ow == 0) = false := by simpa using hw
          have HB := Lib.hid (show bv = false by rw [HB0.out, if_pos (by decide)]; exact decide_eq_false hw)
          clear hw
          refine region_sch (S2M q4 (MV F nf fc gs (some ⟨g1, 0, none⟩) n c1 ho ((kg : Int) + 1)) q (MV F nf fc gs (some ⟨g, off, none⟩) n c ho ow)) [([0, 1, 2, 3], 4)] [5] (by kernel_rfl) (by kernel_rfl) (by kernel_rfl) (fun _ _ d _ _ h => by cases d <;> exact h) HS6.out ?_
          (try simp only [Act.put, List.setIfInBounds_toArray, List.set_cons_zero, List.set_cons_succ]); refine sch_seg ?_; simp only [pickOps, List.getElem?_toArray, List.getElem?_cons_zero, List.getElem?_cons_succ]; (repeat (first | (refine quiet_load_at (by rfl) 47 _ rfl ⟨q4, 0, none⟩ rfl (MV F nf fc gs (some ⟨g1, 0, none⟩) n c1 ho ((kg : Int) + 1)) LD4 ?_; simp only [Act.put, List.setIfInBounds_toArray, List.set_cons_zero, List.set_cons_succ]) | go_big_quiet_skip | (go_big_quiet_want; first | (go_big_quiet_op; first | go_big_quiet_on | ((first | with_reducible refine ⟨_, fun _ _ => rfl, ?_⟩); go_big_quiet_on)) | (simp (contextual := true) [go_sem, D4]; with_reducible refine ⟨_, fun _ _ => rfl, ?_⟩; go_big_quiet_on)))); refine wpQuiet_nil ?_
          clear D4 LD4
          go_wp2_with (refine wpList_store_row rfl 47 _ _ rfl (q + 2) (MV F nf fc gs (some ⟨g1, 0, none⟩) n c1 ho ((kg : Int) + 1)) rfl rfl 47 _ H63.out (mv_info _ _ _ _ _ _ _ _ _) (mv_size _ _ _ _ _ _ _ _ _).symm (mv_one _ _ _ _ _ _ _ _ _) ?_)
          refine ⟨S2M q4 (MV F nf fc gs (some ⟨g1, 0, none⟩) n c1 ho ((kg : Int) + 1)) q (MV F nf fc gs (some ⟨g, off, none⟩) n c ho ow), ⟨HS6.out.1.farRow (by have := HGL.out; have := HQX.out; have := HQ3L.out; omega) _, HS6.out.2.farRow (by omega) _⟩, fun _ h => h, ?_⟩
          (try simp only [Act.put]); refine sch_end ?_; simp only [pickOps, List.getElem?_toArray, List.getElem?_cons_zero, List.getElem?_cons_succ]; (repeat (first | go_big_quiet_skip | (go_big_quiet_want; first | (go_big_quiet_op; first | go_big_quiet_on | ((first | with_reducible refine ⟨_, fun _ _ => rfl, ?_⟩); go_big_quiet_on)) | (simp (contextual := true) [go_sem, HN]; with_reducible refine ⟨_, fun _ _ => rfl, ?_⟩; go_big_quiet_on)))); refine wpQuiet_nil ?_
          go_wp2_with fail
          refine bodyPost_ret (results_cell2 Tryd.results39 _ _ (q + 2) 47 (MV F nf fc gs (some ⟨g1, 0, none⟩) n c1 ho ((kg : Int) + 1)) (0, 0) _ rfl (H63.out.setRow _) Tryd.underlying47 rfl (mv_info _ _ _ _ _ _ _ _ _)) rfl ?_
          rw [HB.out]
          refine ⟨_, _, _, _, _, rfl, below_setRow HBL6.out.drew (by rw [HQ.out]; omega) HBL6.out.drew.size _, fun h => by cases h⟩
      have e17 : (op == 17) = false := by simpa using hop
      by_cases hop2 : op = 19
      · have e17 : (19 == (17 : Int)) = true ∨ True := .inr trivial
        clear e17
        subst hop2
        go_upto_region 10 with (fail)
        obtain ⟨w6, HW6⟩ : ∃ V, Hid (V = w5.setCell ⟨q4, 4, none⟩ (.int .i64 ((kg : Int) + 1))) := ⟨_, Lib.hid rfl⟩
        have h61 : Blk w6 q 47 (MV F nf fc gs (some ⟨g, off, none⟩) n c ho ow) := by rw [HW6.out]; exact H51.out.far (p := ⟨q4, 4, none⟩) (by show q ≠ q4; have := HGL.out; have := HQX.out; have := HQ3L.out; omega) _
        have h65 : Blk w6 q4 47 (MV F nf fc gs (some ⟨g1, 0, none⟩) n c1 ho ((kg : Int) + 1)) := by rw [HW6.out, ← mv_4 F nf fc gs (some ⟨g1, 0, none⟩) n c1 ho ow]; exact H55.out.set_ 4 _
        have H63 := Lib.hid (show Blk w6.drew (q + 2) 47 _ from Blk.drew (show Blk w6 (q + 2) 47 _ by rw [HW6.out]; exact H53.out.far (p := ⟨q4, 4, none⟩) (by show q + 2 ≠ q4; have := HGL.out; have := HQX.out; have := HQ3L.out; omega) _))
        have HO6 := Lib.hid (show Own w6.drew X.heap.size 77 16 (some ⟨g1, 0, none⟩) n c1 ((rs.set kg { z with x := { z.x with beg := true } }).flatMap pgVals) from World.ownsRow.drew (show Own w6 X.heap.size 77 16 (some ⟨g1, 0, none⟩) n c1 ((rs.set kg { z with x := { z.x with beg := true } }).flatMap pgVals) by rw [HW6.out]; exact HO5.out.setCell ⟨q4, 4, none⟩ _ (.inr fun e => by have h1 := HGL.out.2.1; have h4 : g1 = q4 := (by simpa [ob] using e); omega)))
        have HBL6 := Lib.hid (show Below w.heap.size w w6 by rw [HW6.out]; exact HBL5.out.setCell (p := ⟨q4, 4, none⟩) (by show w.heap.size ≤ q4; have := HGL.out; have := HBX.out.size; omega) _)
        have HS6 := Lib.hid (show S2M q4 (MV F nf fc gs (some ⟨g1, 0, none⟩) n c1 ho ((kg : Int) + 1)) q (MV F nf fc gs (some ⟨g, off, none⟩) n c ho ow) w6.drew from ⟨h65.drew, h61.drew⟩)
        rw [← HW6.out]
        have LD4 : ∀ w', S2M q4 (MV F nf fc gs (some ⟨g1, 0, none⟩) n c1 ho ((kg : Int) + 1)) q (MV F nf fc gs (some ⟨g, off, none⟩) n c ho ow) w' → (loadVar 47 ⟨q4, 0, none⟩).run Tryd.prog w' = .ok (.agg (MV F nf fc gs (some ⟨g1, 0, none⟩) n c1 ho ((kg : Int) + 1))) w' := fun w' h => run_loadVar_cells w' q4 0 _ _ _ (fun j v hv => by rw [Nat.zero_add]; exact (Blk.cell h.1 j).trans hv) Tryd.underlying47 rfl (mv_info _ _ _ _ _ _ _ _ _)
        have D4 : ∀ w', S2M q4 (MV F nf fc gs (some ⟨g1, 0, none⟩) n c1 ho ((kg : Int) + 1)) q (MV F nf fc gs (some ⟨g, off, none⟩) n c ho ow) w' → w'.cell? ⟨q, 4, none⟩ = some (.int .i64 ow) := fun w' h => (Blk.cell h.2 4).trans rfl
        clear h61 h65
        by_cases hw : ow = 0
        · have x0 : (ow == 0) = true := by simpa using hw
          have HB := Lib.hid (show bv = true by rw [HB0.out, if_pos (by decide)]; exact decide_eq_true hw)
          clear hw
          refine region_sch (S2M q4 (MV F nf fc gs (some ⟨g1, 0, none⟩) n c1 ho ((kg : Int) + 1)) q (MV F nf fc gs (some ⟨g, off, none⟩) n c ho ow)) [([0, 1, 2, 3], 4)] [5] (by kernel_rfl) (by kernel_rfl) (by kernel_rfl) (fun _ _ d _ _ h => by cases d <;> exact h) HS6.out ?_
          (try simp only [Act.put, List.setIfInBounds_toArray, List.set_cons_zero, List.set_cons_succ]); refine sch_seg ?_; simp only [pickOps, List.getElem?_toArray, List.getElem?_cons_zero, List.getElem?_cons_succ]; (repeat (first | (refine quiet_load_at (by rfl) 47 _ rfl ⟨q4, 0, none⟩ rfl (MV F nf fc gs (some ⟨g1, 0, none⟩) n c1 ho ((kg : Int) + 1)) LD4 ?_; simp only [Act.put, List.setIfInBounds_toArray, List.set_cons_zero, List.set_cons_succ]) | go_big_quiet_skip | (go_big_quiet_want; first | (go_big_quiet_op; first | go_big_quiet_on | ((first | with_reducible refine ⟨_, fun _ _ => rfl, ?_⟩); go_big_quiet_on)) | (simp (contextual := true) [go_sem, D4]; with_reducible refine ⟨_, fun _ _ => rfl, ?_⟩; go_big_quiet_on)))); refine wpQuiet_nil ?_
          clear D4 LD4
          go_wp2_with (refine wpList_store_row rfl 47 _ _ rfl (q + 2) (MV F nf fc gs (some ⟨g1, 0, none⟩) n c1 ho ((kg : Int) + 1)) rfl rfl 47 _ H63.out (mv_info _ _ _ _ _ _ _ _ _) (mv_size _ _ _ _ _ _ _ _ _).symm (mv_one _ _ _ _ _ _ _ _ _) ?_)
          refine ⟨S2M q4 (MV F nf fc gs (some ⟨g1, 0, none⟩) n c1 ho ((kg : Int) + 1)) q (MV F nf fc gs (some ⟨g, off, none⟩) n c ho ow), ⟨HS6.out.1.farRow (by have := HGL.out; have := HQX.out; have := HQ3L.out; omega) _, HS6.out.2.farRow (by omega) _⟩, fun _ h => h, ?_⟩
          (try simp only [Act.put]); refine sch_end ?_; simp only [pickOps, List.getElem?_toArray, List.getElem?_cons_zero, List.getElem?_cons_succ]; (repeat (first | go_big_quiet_skip | (go_big_quiet_want; first | (go_big_quiet_op; first | go_big_quiet_on | ((first | with_reducible refine ⟨_, fun _ _ => rfl, ?_⟩); go_big_quiet_on)) | (simp (contextual := true) [go_sem, HN]; with_reducible refine ⟨_, fun _ _ => rfl, ?_⟩; go_big_quiet_on)))); refine wpQuiet_nil ?_
          go_wp2_with fail
          refine bodyPost_ret (results_cell2 Tryd.results39 _ _ (q + 2) 47 (MV F nf fc gs (some ⟨g1, 0, none⟩) n c1 ho ((kg : Int) + 1)) (0, 0) _ rfl (H63.out.setRow _) Tryd.underlying47 rfl (mv_info _ _ _ _ _ _ _ _ _)) rfl ?_
          rw [HB.out]
          refine ⟨_, _, _, _, _, rfl, below_setRow HBL6.out.drew (by rw [HQ.out]; omega) HBL6.out.drew.size _, fun _ => ⟨by rw [List.length_set]; exact HN.out, rfl, by rw [HOW1.out]; rw [if_neg (by decide)], (fun x hx => by have h1 := HGL.out.1; have h2 := HBX.out.size; have h3 : g1 = x := (by simpa [ob] using hx); omega), ?_⟩⟩
          refine Own.rowN (base := X.heap.size) (e := 77) (c := c1) (n := n) (Own.kept HO6.out (grown_setRow _ _ _) (.inr fun e => ?_))
          have h1 := HGL.out.1
          have h2 := HQX.out
          have h3 := HQ3L.out
          have h4 : g1 = q + 2 := by simpa [ob] using e
          omega
        · have x0 : (ow == 0) = false := by simpa using hw
          have HB := Lib.hid (show bv = false by rw [HB0.out, if_pos (by decide)]; exact decide_eq_false hw)
          clear hw
          refine region_sch (S2M q4 (MV F nf fc gs (some ⟨g1, 0, none⟩) n c1 ho ((kg : Int) + 1)) q (MV F nf fc gs (some ⟨g, off, none⟩) n c ho ow)) [([0, 1, 2, 3], 4)] [5] (by kernel_rfl) (by kernel_rfl) (by kernel_rfl) (fun _ _ d _ _ h => by cases d <;> exact h) HS6.out ?_
          (try simp only [Act.put, List.setIfInBounds_toArray, List.set_cons_zero, List.set_cons_succ]); refine sch_seg ?_; simp only [pickOps, List.getElem?_toArray, List.getElem?_cons_zero, List.getElem?_cons_succ]; (repeat (first | (refine quiet_load_at (by rfl) 47 _ rfl ⟨q4, 0, none⟩ rfl (MV F nf fc gs (some ⟨g1, 0, none⟩) n c1 ho ((kg : Int) + 1)) LD4 ?_; simp only [Act.put, List.setIfInBounds_toArray, List.set_cons_zero, List.set_cons_succ]) | go_big_quiet_skip | (go_big_quiet_want; first | (go_big_quiet_op; first | go_big_quiet_on | ((first | with_reducible refine ⟨_, fun _ _ => rfl, ?_⟩); go_big_quiet_on)) | (simp (contextual := true) [go_sem, D4]; with_reducible refine ⟨_, fun _ _ => rfl, ?_⟩; go_big_quiet_on)))); refine wpQuiet_nil ?_
          clear D4 LD4
          go_wp2_with (refine wpList_store_row rfl 47 _ _ rfl (q + 2) (MV F nf fc gs (some ⟨g1, 0, none⟩) n c1 ho ((kg : Int) + 1)) rfl rfl 47 _ H63.out (mv_info _ _ _ _ _ _ _ _ _) (mv_size _ _ _ _ _ _ _ _ _).symm (mv_one _ _ _ _ _ _ _ _ _) ?_)
          refine ⟨S2M q4 (MV F nf fc gs (some ⟨g1, 0, none⟩) n c1 ho ((kg : Int) + 1)) q (MV F nf fc gs (some ⟨g, off, none⟩) n c ho ow), ⟨HS6.out.1.farRow (by have := HGL.out; have := HQX.out; have := HQ3L.out; omega) _, HS6.out.2.farRow (by omega) _⟩, fun _ h => h, ?_⟩
          (try simp only [Act.put]); refine sch_end ?_; simp only [pickOps, List.getElem?_toArray, List.getElem?_cons_zero, List.getElem?_cons_succ]; (repeat (first | go_big_quiet_skip | (go_big_quiet_want; first | (go_big_quiet_op; first | go_big_quiet_on | ((first | with_reducible refine ⟨_, fun _ _ => rfl, ?_⟩); go_big_quiet_on)) | (simp (contextual := true) [go_sem, HN]; with_reducible refine ⟨_, fun _ _ => rfl, ?_⟩; go_big_quiet_on)))); refine wpQuiet_nil ?_
          go_wp2_with fail
          refine bodyPost_ret (results_cell2 Tryd.results39 _ _ (q + 2) 47 (MV F nf fc gs (some ⟨g1, 0, none⟩) n c1 ho ((kg : Int) + 1)) (0, 0) _ rfl (H63.out.setRow _) Tryd.underlying47 rfl (mv_info _ _ _ _ _ _ _ _ _)) rfl ?_
          rw [HB.out]
          refine ⟨_, _, _, _, _, rfl, below_setRow HBL6.out.drew (by rw [HQ.out]; omega) HBL6.out.drew.size _, fun h => by cases h⟩
      have e19 : (op == 19) = false := by simpa using hop2
      by_cases hop3 : op = 20
      · subst hop3
        go_upto_region 13 with (fail)
        have HS5 := Lib.hid (show S2M q4 (MV F nf fc gs (some ⟨g1, 0, none⟩) n c1 ho ow) q (MV F nf fc gs (some ⟨g, off, none⟩) n c ho ow) w5.drew from ⟨H55.out.drew, H51.out.drew⟩)
        have LD4 : ∀ w', S2M q4 (MV F nf fc gs (some ⟨g1, 0, none⟩) n c1 ho ow) q (MV F nf fc gs (some ⟨g, off, none⟩) n c ho ow) w' → (loadVar 47 ⟨q4, 0, none⟩).run Tryd.prog w' = .ok (.agg (MV F nf fc gs (some ⟨g1, 0, none⟩) n c1 ho ow)) w' := fun w' h => run_loadVar_cells w' q4 0 _ _ _ (fun j v hv => by rw [Nat.zero_add]; exact (Blk.cell h.1 j).trans hv) Tryd.underlying47 rfl (mv_info _ _ _ _ _ _ _ _ _)
        have LD1 : ∀ w', S2M q4 (MV F nf fc gs (some ⟨g1, 0, none⟩) n c1 ho ow) q (MV F nf fc gs (some ⟨g, off, none⟩) n c ho ow) w' → (loadVar 47 ⟨q, 0, none⟩).run Tryd.prog w' = .ok (.agg (MV F nf fc gs (some ⟨g, off, none⟩) n c ho ow)) w' := fun w' h => run_loadVar_cells w' q 0 _ _ _ (fun j v hv => by rw [Nat.zero_add]; exact (Blk.cell h.2 j).trans hv) Tryd.underlying47 rfl (mv_info _ _ _ _ _ _ _ _ _)
        have D4 : ∀ w', S2M q4 (MV F nf fc gs (some ⟨g1, 0, none⟩) n c1 ho ow) q (MV F nf fc gs (some ⟨g, off, none⟩) n c ho ow) w' → w'.cell? ⟨q, 4, none⟩ = some (.int .i64 ow) := fun w' h => (Blk.cell h.2 4).trans rfl
        have HTH := Lib.hid (fun w' => (show Calls Tryd.prog 58 #[.agg (MV F nf fc gs (some ⟨g, off, none⟩) n c ho ow), .int .i64 r] w' _ from there_any (.slice F nf fc) (.int .i64 gs) (.int .i64 ho) (.int .i64 ow) (some ⟨g, off, none⟩) n c r w'))
        cases hth : thereB n r with
        | true =>
          by_cases hne : r ≠ (kg : Int) + 1
          · have x1 : (r != (kg : Int) + 1) = true := by simpa using hne
            have x2 : (r == (kg : Int) + 1) = false := by simpa using hne
            have HB := Lib.hid (show bv = true by rw [HB0.out, if_neg (by decide), if_pos rfl, hth, Bool.true_and]; exact decide_eq_true hne)
            rw [hth] at HTH
            clear hth hne
            refine region_sch (S2M q4 (MV F nf fc gs (some ⟨g1, 0, none⟩) n c1 ho ow) q (MV F nf fc gs (some ⟨g, off, none⟩) n c ho ow)) [([0, 1, 2], 3), ([4, 5, 6, 7, 8], 9)] [10] (by kernel_rfl) (by kernel_rfl) (by kernel_rfl) (fun _ _ d _ _ h => by cases d <;> exact h) HS5.out ?_
            (try simp only [Act.put, List.setIfInBounds_toArray, List.set_cons_zero, List.set_cons_succ]); refine sch_seg ?_; simp only [pickOps, List.getElem?_toArray, List.getElem?_cons_zero, List.getElem?_cons_succ]; (repeat (first | (refine quiet_load_at (by rfl) 47 _ rfl ⟨q4, 0, none⟩ rfl (MV F nf fc gs (some ⟨g1, 0, none⟩) n c1 ho ow) LD4 ?_; simp only [Act.put, List.setIfInBounds_toArray, List.set_cons_zero, List.set_cons_succ]) | (refine quiet_load_at (by rfl) 47 _ rfl ⟨q, 0, none⟩ rfl (MV F nf fc gs (some ⟨g, off, none⟩) n c ho ow) LD1 ?_; simp only [Act.put, List.setIfInBounds_toArray, List.set_cons_zero, List.set_cons_succ]) | go_big_quiet_skip | (go_big_quiet_want; first | (go_big_quiet_op; first | go_big_quiet_on | ((first | with_reducible refine ⟨_, fun _ _ => rfl, ?_⟩); go_big_quiet_on)) | (simp (contextual := true) [go_sem, D4]; with_reducible refine ⟨_, fun _ _ => rfl, ?_⟩; go_big_quiet_on)))); refine wpQuiet_nil ?_
            clear D4 LD4 LD1
            go_wp2_with (go_at_call 58; refine (HTH.out _).mono ?_; rintro e w6 ⟨rfl, hb6⟩)
            have HB6 := Lib.hid (show Below w5.heap.size w5 w6 from (Below.refl w5.heap.size w5).drew.trans hb6)
            have H63 := Lib.hid (H53.out.below HB6.out H53.out.lt)
            have HS6 := Lib.hid (show S2M q4 (MV F nf fc gs (some ⟨g1, 0, none⟩) n c1 ho ow) q (MV F nf fc gs (some ⟨g, off, none⟩) n c ho ow) w6 from ⟨H55.out.below HB6.out H55.out.lt, H51.out.below HB6.out H51.out.lt⟩)
            have HO6 := Lib.hid (own_below HO5.out HB6.out)
            have HBL6 := Lib.hid (HBL5.out.trans (HB6.out.mono HBL5.out.size))
            clear hb6
            refine ⟨S2M q4 (MV F nf fc gs (some ⟨g1, 0, none⟩) n c1 ho ow) q (MV F nf fc gs (some ⟨g, off, none⟩) n c ho ow), HS6.out, fun _ h => h, ?_⟩
            (try simp only [Act.put, List.setIfInBounds_toArray, List.set_cons_zero, List.set_cons_succ]); refine sch_seg ?_; simp only [pickOps, List.getElem?_toArray, List.getElem?_cons_zero, List.getElem?_cons_succ]; (repeat (first | go_big_quiet_skip | (go_big_quiet_want; first | (go_big_quiet_op; first | go_big_quiet_on | ((first | with_reducible refine ⟨_, fun _ _ => rfl, ?_⟩); go_big_quiet_on)) | (simp (contextual := true) [go_sem, HN]; with_reducible refine ⟨_, fun _ _ => rfl, ?_⟩; go_big_quiet_on)))); refine wpQuiet_nil ?_
            go_wp2_with (refine wpList_store_row rfl 47 _ _ rfl (q + 2) (MV F nf fc gs (some ⟨g1, 0, none⟩) n c1 ho ow) rfl rfl 47 _ H63.out (mv_info _ _ _ _ _ _ _ _ _) (mv_size _ _ _ _ _ _ _ _ _).symm (mv_one _ _ _ _ _ _ _ _ _) ?_)
            refine ⟨S2M q4 (MV F nf fc gs (some ⟨g1, 0, none⟩) n c1 ho ow) q (MV F nf fc gs (some ⟨g, off, none⟩) n c ho ow), ⟨HS6.out.1.farRow (by have := HGL.out; have := HQX.out; have := HQ3L.out; omega) _, HS6.out.2.farRow (by omega) _⟩, fun _ h => h, ?_⟩
            (try simp only [Act.put]); refine sch_end ?_; simp only [pickOps, List.getElem?_toArray, List.getElem?_cons_zero, List.getElem?_cons_succ]; (repeat (first | go_big_quiet_skip | (go_big_quiet_want; first | (go_big_quiet_op; first | go_big_quiet_on | ((first | with_reducible refine ⟨_, fun _ _ => rfl, ?_⟩); go_big_quiet_on)) | (simp (contextual := true) [go_sem, HN]; with_reducible refine ⟨_, fun _ _ => rfl, ?_⟩; go_big_quiet_on)))); refine wpQuiet_nil ?_
            go_wp2_with fail
            refine bodyPost_ret (results_cell2 Tryd.results39 _ _ (q + 2) 47 (MV F nf fc gs (some ⟨g1, 0, none⟩) n c1 ho ow) (0, 0) _ rfl (H63.out.setRow _) Tryd.underlying47 rfl (mv_info _ _ _ _ _ _ _ _ _)) rfl ?_
            rw [HB.out]
            refine ⟨_, _, _, _, _, rfl, below_setRow HBL6.out (by rw [HQ.out]; omega) HBL6.out.size _, fun _ => ⟨by rw [List.length_set]; exact HN.out, rfl, by rw [HOW1.out]; rw [if_pos trivial], (fun x hx => by have h1 := HGL.out.1; have h2 := HBX.out.size; have h3 : g1 = x := (by simpa [ob] using hx); omega), ?_⟩⟩
            refine Own.rowN (base := X.heap.size) (e := 77) (c := c1) (n := n) (Own.kept HO6.out (grown_setRow _ _ _) (.inr fun e => ?_))
            have h1 := HGL.out.1
            have h2 := HQX.out
            have h3 := HQ3L.out
            have h4 : g1 = q + 2 := by simpa [ob] using e
            omega
          · have hne : r = (kg : Int) + 1 := Decidable.not_not.1 hne
            have x1 : (r != (kg : Int) + 1) = false := by simpa using hne
            have x2 : (r == (kg : Int) + 1) = true := by simpa using hne
            have HB := Lib.hid (show bv = false by rw [HB0.out, if_neg (by decide), if_pos rfl, hth, Bool.true_and]; exact decide_eq_false (fun h => h hne))
            rw [hth] at HTH
            clear hth hne
            refine region_sch (S2M q4 (MV F nf fc gs (some ⟨g1, 0, none⟩) n c1 ho ow) q (MV F nf fc gs (some ⟨g, off, none⟩) n c ho ow)) [([0, 1, 2], 3), ([4, 5, 6, 7, 8], 9)] [10] (by kernel_rfl) (by kernel_rfl) (by kernel_rfl) (fun _ _ d _ _ h => by cases d <;> exact h) HS5.out ?_
            (try simp only [Act.put, List.setIfInBounds_toArray, List.set_cons_zero, List.set_cons_succ]); refine sch_seg ?_; simp only [pickOps, List.getElem?_toArray, List.getElem?_cons_zero, List.getElem?_cons_succ]; (repeat (first | (refine quiet_load_at (by rfl) 47 _ rfl ⟨q4, 0, none⟩ rfl (MV F nf fc gs (some ⟨g1, 0, none⟩) n c1 ho ow) LD4 ?_; simp only [Act.put, List.setIfInBounds_toArray, List.set_cons_zero, List.set_cons_succ]) | (refine quiet_load_at (by rfl) 47 _ rfl ⟨q, 0, none⟩ rfl (MV F nf fc gs (some ⟨g, off, none⟩) n c ho ow) LD1 ?_; simp only [Act.put, List.setIfInBounds_toArray, List.set_cons_zero, List.set_cons_succ]) | go_big_quiet_skip | (go_big_quiet_want; first | (go_big_quiet_op; first | go_big_quiet_on | ((first | with_reducible refine ⟨_, fun _ _ => rfl, ?_⟩); go_big_quiet_on)) | (simp (contextual := true) [go_sem, D4]; with_reducible refine ⟨_, fun _ _ => rfl, ?_⟩; go_big_quiet_on)))); refine wpQuiet_nil ?_
            clear D4 LD4 LD1
            go_wp2_with (go_at_call 58; refine (HTH.out _).mono ?_; rintro e w6 ⟨rfl, hb6⟩)
            have HB6 := Lib.hid (show Below w5.heap.size w5 w6 from (Below.refl w5.heap.size w5).drew.trans hb6)
            have H63 := Lib.hid (H53.out.below HB6.out H53.out.lt)
            have HS6 := Lib.hid (show S2M q4 (MV F nf fc gs (some ⟨g1, 0, none⟩) n c1 ho ow) q (MV F nf fc gs (some ⟨g, off, none⟩) n c ho ow) w6 from ⟨H55.out.below HB6.out H55.out.lt, H51.out.below HB6.out H51.out.lt⟩)
            have HO6 := Lib.hid (own_below HO5.out HB6.out)
            have HBL6 := Lib.hid (HBL5.out.trans (HB6.out.mono HBL5.out.size))
            clear hb6
            refine ⟨S2M q4 (MV F nf fc gs (some ⟨g1, 0, none⟩) n c1 ho ow) q (MV F nf fc gs (some ⟨g, off, none⟩) n c ho ow), HS6.out, fun _ h => h, ?_⟩
            (try simp only [Act.put, List.setIfInBounds_toArray, List.set_cons_zero, List.set_cons_succ]); refine sch_seg ?_; simp only [pickOps, List.getElem?_toArray, List.getElem?_cons_zero, List.getElem?_cons_succ]; (repeat (first | go_big_quiet_skip | (go_big_quiet_want; first | (go_big_quiet_op; first | go_big_quiet_on | ((first | with_reducible refine ⟨_, fun _ _ => rfl, ?_⟩); go_big_quiet_on)) | (simp (contextual := true) [go_sem, HN]; with_reducible refine ⟨_, fun _ _ => rfl, ?_⟩; go_big_quiet_on)))); refine wpQuiet_nil ?_
            go_wp2_with (refine wpList_store_row rfl 47 _ _ rfl (q + 2) (MV F nf fc gs (some ⟨g1, 0, none⟩) n c1 ho ow) rfl rfl 47 _ H63.out (mv_info _ _ _ _ _ _ _ _ _) (mv_size _ _ _ _ _ _ _ _ _).symm (mv_one _ _ _ _ _ _ _ _ _) ?_)
            refine ⟨S2M q4 (MV F nf fc gs (some ⟨g1, 0, none⟩) n c1 ho ow) q (MV F nf fc gs (some ⟨g, off, none⟩) n c ho ow), ⟨HS6.out.1.farRow (by have := HGL.out; have := HQX.out; have := HQ3L.out; omega) _, HS6.out.2.farRow (by omega) _⟩, fun _ h => h, ?_⟩
            (try simp only [Act.put]); refine sch_end ?_; simp only [pickOps, List.getElem?_toArray, List.getElem?_cons_zero, List.getElem?_cons_succ]; (repeat (first | go_big_quiet_skip | (go_big_quiet_want; first | (go_big_quiet_op; first | go_big_quiet_on | ((first | with_reducible refine ⟨_, fun _ _ => rfl, ?_⟩); go_big_quiet_on)) | (simp (contextual := true) [go_sem, HN]; with_reducible refine ⟨_, fun _ _ => rfl, ?_⟩; go_big_quiet_on)))); refine wpQuiet_nil ?_
            go_wp2_with fail
            refine bodyPost_ret (results_cell2 Tryd.results39 _ _ (q + 2) 47 (MV F nf fc gs (some ⟨g1, 0, none⟩) n c1 ho ow) (0, 0) _ rfl (H63.out.setRow _) Tryd.underlying47 rfl (mv_info _ _ _ _ _ _ _ _ _)) rfl ?_
            rw [HB.out]
            refine ⟨_, _, _, _, _, rfl, below_setRow HBL6.out (by rw [HQ.out]; omega) HBL6.out.size _, fun h => by cases h⟩
        | false =>
          have HB := Lib.hid (show bv = false by rw [HB0.out, if_neg (by decide), if_pos rfl, hth, Bool.false_and])
          rw [hth] at HTH
          clear hth
          refine region_sch (S2M q4 (MV F nf fc gs (some ⟨g1, 0, none⟩) n c1 ho ow) q (MV F nf fc gs (some ⟨g, off, none⟩) n c ho ow)) [([0, 1, 2], 3), ([4, 5, 6, 7, 8], 9)] [10] (by kernel_rfl) (by kernel_rfl) (by kernel_rfl) (fun _ _ d _ _ h => by cases d <;> exact h) HS5.out ?_
          (try simp only [Act.put, List.setIfInBounds_toArray, List.set_cons_zero, List.set_cons_succ]); refine sch_seg ?_; simp only [pickOps, List.getElem?_toArray, List.getElem?_cons_zero, List.getElem?_cons_succ]; (repeat (first | (refine quiet_load_at (by rfl) 47 _ rfl ⟨q4, 0, none⟩ rfl (MV F nf fc gs (some ⟨g1, 0, none⟩) n c1 ho ow) LD4 ?_; simp only [Act.put, List.setIfInBounds_toArray, List.set_cons_zero, List.set_cons_succ]) | (refine quiet_load_at (by rfl) 47 _ rfl ⟨q, 0, none⟩ rfl (MV F nf fc gs (some ⟨g, off, none⟩) n c ho ow) LD1 ?_; simp only [Act.put, List.setIfInBounds_toArray, List.set_cons_zero, List.set_cons_succ]) | go_big_quiet_skip | (go_big_quiet_want; first | (go_big_quiet_op; first | go_big_quiet_on | ((first | with_reducible refine ⟨_, fun _ _ => rfl, ?_⟩); go_big_quiet_on)) | (simp (contextual := true) [go_sem, D4]; with_reducible refine ⟨_, fun _ _ => rfl, ?_⟩; go_big_quiet_on)))); refine wpQuiet_nil ?_
          clear D4 LD4 LD1
          go_wp2_with (go_at_call 58; refine (HTH.out _).mono ?_; rintro e w6 ⟨rfl, hb6⟩)
          have HB6 := Lib.hid (show Below w5.heap.size w5 w6 from (Below.refl w5.heap.size w5).drew.trans hb6)
          have H63 := Lib.hid (H53.out.below HB6.out H53.out.lt)
          have HS6 := Lib.hid (show S2M q4 (MV F nf fc gs (some ⟨g1, 0, none⟩) n c1 ho ow) q (MV F nf fc gs (some ⟨g, off, none⟩) n c ho ow) w6 from ⟨H55.out.below HB6.out H55.out.lt, H51.out.below HB6.out H51.out.lt⟩)
          have HO6 := Lib.hid (own_below HO5.out HB6.out)
          have HBL6 := Lib.hid (HBL5.out.trans (HB6.out.mono HBL5.out.size))
          clear hb6
          refine ⟨S2M q4 (MV F nf fc gs (some ⟨g1, 0, none⟩) n c1 ho ow) q (MV F nf fc gs (some ⟨g, off, none⟩) n c ho ow), HS6.out, fun _ h => h, ?_⟩
          (try simp only [Act.put, List.setIfInBounds_toArray, List.set_cons_zero, List.set_cons_succ]); refine sch_seg ?_; simp only [pickOps, List.getElem?_toArray, List.getElem?_cons_zero, List.getElem?_cons_succ]; (repeat (first | go_big_quiet_skip | (go_big_quiet_want; first | (go_big_quiet_op; first | go_big_quiet_on | ((first | with_reducible refine ⟨_, fun _ _ => rfl, ?_⟩); go_big_quiet_on)) | (simp (contextual := true) [go_sem, HN]; with_reducible refine ⟨_, fun _ _ => rfl, ?_⟩; go_big_quiet_on)))); refine wpQuiet_nil ?_
          go_wp2_with (refine wpList_store_row rfl 47 _ _ rfl (q + 2) (MV F nf fc gs (some ⟨g1, 0, none⟩) n c1 ho ow) rfl rfl 47 _ H63.out (mv_info _ _ _ _ _ _ _ _ _) (mv_size _ _ _ _ _ _ _ _ _).symm (mv_one _ _ _ _ _ _ _ _ _) ?_)
          refine ⟨S2M q4 (MV F nf fc gs (some ⟨g1, 0, none⟩) n c1 ho ow) q (MV F nf fc gs (some ⟨g, off, none⟩) n c ho ow), ⟨HS6.out.1.farRow (by have := HGL.out; have := HQX.out; have := HQ3L.out; omega) _, HS6.out.2.farRow (by omega) _⟩, fun _ h => h, ?_⟩
          (try simp only [Act.put]); refine sch_end ?_; simp only [pickOps, List.getElem?_toArray, List.getElem?_cons_zero, List.getElem?_cons_succ]; (repeat (first | go_big_quiet_skip | (go_big_quiet_want; first | (go_big_quiet_op; first | go_big_quiet_on | ((first | with_reducible refine ⟨_, fun _ _ => rfl, ?_⟩); go_big_quiet_on)) | (simp (contextual := true) [go_sem, HN]; with_reducible refine ⟨_, fun _ _ => rfl, ?_⟩; go_big_quiet_on)))); refine wpQuiet_nil ?_
          go_wp2_with fail
          refine bodyPost_ret (results_cell2 Tryd.results39 _ _ (q + 2) 47 (MV F nf fc gs (some ⟨g1, 0, none⟩) n c1 ho ow) (0, 0) _ rfl (H63.out.setRow _) Tryd.underlying47 rfl (mv_info _ _ _ _ _ _ _ _ _)) rfl ?_
          rw [HB.out]
          refine ⟨_, _, _, _, _, rfl, below_setRow HBL6.out (by rw [HQ.out]; omega) HBL6.out.size _, fun h => by cases h⟩
      have e20 : (op == 20) = false := by simpa using hop3
      have HB := Lib.hid (show bv = false by rw [HB0.out, if_neg (by rintro (h | h); exact hop h; exact hop2 h), if_neg hop3])
      clear hop hop2 hop3
      go_wp2_with (first | (refine wpList_load_row rfl 47 _ rfl (q) rfl 47 (MV F nf fc gs (some ⟨g, off, none⟩) n c ho ow) (0, 0) _ H51.out Tryd.underlying47 rfl (mv_info _ _ _ _ _ _ _ _ _) ?_) | (refine wpList_store_row rfl 47 _ _ rfl (q + 2) (MV F nf fc gs (some ⟨g, off, none⟩) n c ho ow) rfl rfl 47 _ H53.out (mv_info _ _ _ _ _ _ _ _ _) (mv_size _ _ _ _ _ _ _ _ _).symm (mv_one _ _ _ _ _ _ _ _ _) ?_))
      refine bodyPost_ret (results_cell2 Tryd.results39 _ _ (q + 2) 47 (MV F nf fc gs (some ⟨g, off, none⟩) n c ho ow) (0, 0) _ rfl (H53.out.setRow _) Tryd.underlying47 rfl (mv_info _ _ _ _ _ _ _ _ _)) rfl ?_
      rw [HB.out]
      refine ⟨_, _, _, _, _, rfl, below_setRow HBL5.out (by rw [HQ.out]; omega) HBL5.out.size _, fun h => by cases h⟩
  · have e0 : (ho == 0) = false := by simpa using h0
    have e0' : (ho != 0) = true := by simpa using h0
    have HB := Lib.hid (show bv = false by rw [HBV.out]; unfold beginsR; rw [if_pos h0])
    clear h0
    go_upto_region 3 with (fail)
    go_wp2_with (first | (refine wpList_load_row rfl 47 _ rfl (q) rfl 47 (MV F nf fc gs (some ⟨g, off, none⟩) n c ho ow) (0, 0) _ HX1.out Tryd.underlying47 rfl (mv_info _ _ _ _ _ _ _ _ _) ?_) | (refine wpList_store_row rfl 47 _ _ rfl (q + 2) (MV F nf fc gs (some ⟨g, off, none⟩) n c ho ow) rfl rfl 47 _ HX3.out (mv_info _ _ _ _ _ _ _ _ _) (mv_size _ _ _ _ _ _ _ _ _).symm (mv_one _ _ _ _ _ _ _ _ _) ?_))
    refine bodyPost_ret (results_cell2 Tryd.results39 _ _ (q + 2) 47 (MV F nf fc gs (some ⟨g, off, none⟩) n c ho ow) (0, 0) _ rfl (HX3.out.setRow _) Tryd.underlying47 rfl (mv_info _ _ _ _ _ _ _ _ _)) rfl ?_
    rw [HB.out]
    exact ⟨_, _, _, _, _, rfl, below_setRow HBX.out (by rw [HQ.out]; omega) HBX.out.size _, fun h => by cases h⟩
end Go.Proofs.YtkfpnppppmccdaaDoor

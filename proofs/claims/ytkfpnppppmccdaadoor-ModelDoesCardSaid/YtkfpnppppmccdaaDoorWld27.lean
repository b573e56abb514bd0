/-
  Chapter 27, the reference's model: what an instruction that has to do with the world does (printed by wld27.py).
-/
import Derived.Test.YtkfpnppppmccdaaDoorRsv27
namespace Go.Proofs.YtkfpnppppmccdaaDoor
open Go.RowKit
/-- The reference's model as cells. -/
def MV (F : Option Addr) (nf fc : Nat) (gs : Int) (A : Option Addr) (n c : Nat) (ho ow : Int) : Array Value := #[.slice F nf fc, .int .i64 gs, .slice A n c, .int .i64 ho, .int .i64 ow]
section
variable (F : Option Addr) (nf fc : Nat) (gs : Int) (A : Option Addr) (n c : Nat) (ho ow : Int)
theorem mv_size : (MV F nf fc gs A n c ho ow).size = 5 := rfl
theorem mv_info : (Tryd.prog.info? 47).map (·.size) = some (MV F nf fc gs A n c ho ow).size := Tryd.infoRm _ _ _ _ _
theorem mv_one : (MV F nf fc gs A n c ho ow).all (·.oneCell') = true := by simp [MV, Value.oneCell']
theorem mv_3 (x : Int) : (MV F nf fc gs A n c ho ow).setIfInBounds 3 (.int .i64 x) = MV F nf fc gs A n c x ow := rfl
theorem mv_4 (x : Int) : (MV F nf fc gs A n c ho ow).setIfInBounds 4 (.int .i64 x) = MV F nf fc gs A n c ho x := rfl
theorem mv_2 (B : Option Addr) (m d : Nat) : (MV F nf fc gs A n c ho ow).setIfInBounds 2 (.slice B m d) = MV F nf fc gs B m d ho ow := rfl
end
theorem mv_cells {w : World} {q : Nat} {F : Option Addr} {nf fc : Nat} {gs : Int} {A : Option Addr} {n c : Nat} {ho ow : Int} (h : Blk w q 47 (MV F nf fc gs A n c ho ow)) :
    w.cell? ⟨q, 0, none⟩ = some (.slice F nf fc) ∧ w.cell? ⟨q, 1, none⟩ = some (.int .i64 gs) ∧ w.cell? ⟨q, 2, none⟩ = some (.slice A n c) ∧ w.cell? ⟨q, 3, none⟩ = some (.int .i64 ho) ∧ w.cell? ⟨q, 4, none⟩ = some (.int .i64 ow) :=
  ⟨(h.cell 0).trans rfl, (h.cell 1).trans rfl, (h.cell 2).trans rfl, (h.cell 3).trans rfl, (h.cell 4).trans rfl⟩
/-- What the world's instructions do: the goroutines, the holder, the owner; may it be? -/
def worldR (rs : List Pg) (ho ow g : Int) (kg : Nat) (z : Pg) (op : Int) : List Pg × Int × Int × Bool :=
  if op = 17 then (if ho = g then (rs, ho, ow, true) else (rs, g, ow, z.x.beg && decide (ow = g)))
  else if op = 18 then (if ho = g then (rs, 0, 0, true) else (rs, ho, ow, true))
  else if op = 19 then (if ho = g then (rs, ho, ow, true) else (rs, ho, 0, z.x.beg && decide (ow = g)))
  else if op = 12 then (if ho = g then (rs, ho, ow, true) else (rs.set kg { z with x := { z.x with blk := !z.x.tok, tok := false } }, ho, ow, true))
  else (rs, ho, ow, true)
def WldOut (w : World) (base : Nat) (F : Option Addr) (nf fc : Nat) (gs : Int) (A : Option Addr) (n c : Nat) (r : List Pg × Int × Int × Bool) (e : Ending) (w' : World) : Prop :=
  e = .returned (.tuple #[.agg (MV F nf fc gs A n c r.2.1 r.2.2.1), .bool r.2.2.2]) ∧ Own w' base 77 16 A n c (r.1.flatMap pgVals) ∧ Mv (ob A).toList w w'
set_option maxRecDepth 10000 in
set_option maxHeartbeats 8000000 in
theorem world_any27 {w : World} {base n c nf fc : Nat} {F A : Option Addr} {rs : List Pg} {gs ho ow : Int} (hO : Own w base 77 16 A n c (rs.flatMap pgVals)) (hn : n = rs.length) (hn100 : n ≤ 100) (kg : Nat) (z : Pg) (hz : rs[kg]? = some z) (op : Int) :
    Calls Tryd.prog 59 #[.agg (MV F nf fc gs A n c ho ow), .int .i64 ((kg : Int) + 1), .int .i64 op] w (WldOut w base F nf fc gs A n c (worldR rs ho ow (kg + 1) kg z op)) := by
  have hkg : kg < rs.length := (List.getElem?_eq_some_iff.1 hz).1
  have hkn : kg < n := by omega
  have hze : rs[kg] = z := by rw [List.getElem?_eq_getElem hkg] at hz; injection hz
  obtain ⟨g, rfl, hgb, hgl, hc0, -, -⟩ := own_pg hO hn hkg
  rw [hze] at hc0
  obtain ⟨q, HQ⟩ : ∃ q, Hid (q = w.heap.size) := ⟨_, Lib.hid rfl⟩
  obtain ⟨U, HU⟩ : ∃ V, Hid (V = (w.alloc (.cells (MV F nf fc gs (some ⟨g, 0, none⟩) n c ho ow) 47)).alloc (.cells #[.slice none 0 0, .int .i64 0, .slice none 0 0, .int .i64 0, .int .i64 0] 47)) := ⟨_, Lib.hid rfl⟩
  obtain ⟨q2, HQE⟩ : ∃ q, Hid (q = U.heap.size) := ⟨_, Lib.hid rfl⟩
  obtain ⟨X, HX⟩ : ∃ X, Hid (X = (U.alloc (.cells #[.int .i64 0, .int .i64 0, .int .i64 0, .int .i64 0, .int .i64 0, .int .i64 0, .int .i64 0, .int .i64 0, .int .i64 0, .int .i64 0, .slice none 0 0, .bool false, .bool false, .bool false, .bool false, .bool false] 77)).setRow U.heap.size (pgVals z).toArray) := ⟨_, Lib.hid rfl⟩
  have hub : Below w.heap.size w U := by rw [HU.out]; exact below2 w _ _
  have hv1 : Blk U q 47 (MV F nf fc gs (some ⟨g, 0, none⟩) n c ho ow) := by rw [HU.out, HQ.out]; exact (Blk.new w _ _).alloc _
  have hv2 : Blk U (q + 1) 47 #[.slice none 0 0, .int .i64 0, .slice none 0 0, .int .i64 0, .int .i64 0] := by rw [HU.out, HQ.out]; exact heap_alloc2_new w _ _
  have HUC := Lib.hid (show ∀ j v, (pgVals z).toArray[j]? = some v → U.cell? ⟨g, kg * 16 + j, none⟩ = some v from fun j v hv => (Below.cell (p := ⟨g, kg * 16 + j, none⟩) hub hgl).trans (hc0 j v (by simpa using hv)))
  have hl1 := hv1.lt
  have hl2 := hv2.lt
  have HBX := Lib.hid (show Below w.heap.size w X by rw [HX.out]; exact below_setRow (hub.alloc hub.size _) hub.size (hub.alloc hub.size _).size _)
  have HQ1 := Lib.hid (show Blk X q 47 (MV F nf fc gs (some ⟨g, 0, none⟩) n c ho ow) by rw [HX.out]; exact (hv1.alloc _).farRow (by omega) _)
  have HQ2 := Lib.hid (show Blk X (q + 1) 47 #[.slice none 0 0, .int .i64 0, .slice none 0 0, .int .i64 0, .int .i64 0] by rw [HX.out]; exact (hv2.alloc _).farRow (by omega) _)
  have HQ3 := Lib.hid (show Blk X q2 77 (pgVals z).toArray by rw [HX.out, HQE.out]; exact (Blk.new U _ _).setRow _)
  have HOX := Lib.hid (own_below hO HBX.out)
  have HGQ := Lib.hid (show base ≤ g ∧ g < q from ⟨hgb, by rw [HQ.out]; exact hgl⟩)
  have hkq : ∀ k, ob (some ⟨g, 0, none⟩ : Option Addr) = some k → k < q + 1 := by
    intro k hk
    have h1 : g = k := by simpa [ob] using hk
    rw [← h1, HQ.out]
    omega
  have HKQ := Lib.hid hkq
  clear hkq
  have HNN := Lib.hid (And.intro hn hz)
  obtain ⟨-, -, c2, c3, c4⟩ := mv_cells HQ1.out
  have f3 := HQ1.out.frozen 3
  have f4 := HQ1.out.frozen 4
  have y13 : X.cell? ⟨q2, 13, none⟩ = some (.bool z.x.tok) := (HQ3.out.cell 13).trans rfl
  have y15 : X.cell? ⟨q2, 15, none⟩ = some (.bool z.x.beg) := (HQ3.out.cell 15).trans rfl
  have m2 : (MV F nf fc gs (some ⟨g, 0, none⟩) n c ho ow)[2]? = some (.slice (some ⟨g, 0, none⟩) n c) := rfl
  have hu := HU.out
  have hq := HQ.out
  have hx := HX.out
  have hqe := HQE.out
  clear hze
  clear hO hc0 hub hv1 hv2 hl1 hl2 hgl hgb hn hkg hz
  go_enter Tryd.func59, Tryd.ntmps59
  go_upto_region 2 with (first | (rw [← hu, ← hq]; clear hu hq; refine wpList_load_cellsW (by rfl) 77 _ rfl g (kg * 16) rfl (pgVals z).toArray _ HUC.out Tryd.underlying77 rfl (Tryd.infoG z) ?_) | (refine wpList_store_row rfl 77 _ _ rfl U.heap.size (pgVals z).toArray rfl rfl 77 _ (Blk.new U _ _) (Tryd.infoG z) rfl (pgArr_one z) ?_; rw [← hx, ← hqe]; clear hx hqe))
  cases hbg : z.x.beg with
  | false =>
    rw [hbg] at y15
    have HOV := Lib.hid (show (z.x.beg && decide (ow = (kg : Int) + 1)) = false by rw [hbg, Bool.false_and])
    clear hbg
    go_upto_region 3 with (fail)
    clear y15
    by_cases hop : op = 17
    · subst hop
      by_cases hh : ho = (kg : Int) + 1
      · have e1 : (ho == (kg : Int) + 1) = true := by simpa using hh
        have HP := Lib.hid (show worldR rs ho ow (kg + 1) kg z 17 = (rs, ho, ow, true) by unfold worldR; simp only [Int.reduceEq, if_true, if_false]; rw [if_pos hh])
        clear hh
        go_wp2_with (first | (refine wpList_load_row rfl 47 _ rfl q rfl 47 (MV F nf fc gs (some ⟨g, 0, none⟩) n c ho ow) (0, 0) _ HQ1.out Tryd.underlying47 rfl (mv_info _ _ _ _ _ _ _ _ _) ?_) | (refine wpList_store_row rfl 47 _ _ rfl (q + 1) (MV F nf fc gs (some ⟨g, 0, none⟩) n c ho ow) rfl rfl 47 _ HQ2.out (mv_info _ _ _ _ _ _ _ _ _) (mv_size _ _ _ _ _ _ _ _ _).symm (mv_one _ _ _ _ _ _ _ _ _) ?_))
        refine bodyPost_ret (results_cell2 Tryd.results59 _ _ (q + 1) 47 (MV F nf fc gs (some ⟨g, 0, none⟩) n c ho ow) (0, 0) _ rfl (HQ2.out.setRow _) Tryd.underlying47 rfl (mv_info _ _ _ _ _ _ _ _ _)) rfl ?_
        rw [HP.out]
        exact ⟨rfl, own_setRow_ne HOX.out HKQ.out _, mv_newRow (Mv.of_below HBX.out (Nat.le_refl _)) (by rw [HQ.out]; omega) _⟩
      · have e1 : (ho == (kg : Int) + 1) = false := by simpa using hh
        have HP := Lib.hid (show worldR rs ho ow (kg + 1) kg z 17 = (rs, (kg : Int) + 1, ow, false) by unfold worldR; simp only [Int.reduceEq, if_true, if_false]; rw [if_neg hh]; rw [HOV.out])
        clear hh
        have K0 := Lib.hid (show Blk (X.setCell ⟨q, 3, none⟩ (.int .i64 ((kg : Int) + 1))) q 47 (MV F nf fc gs (some ⟨g, 0, none⟩) n c ((kg : Int) + 1) (ow)) by rw [← mv_3 F nf fc gs (some ⟨g, 0, none⟩) n c (ho) (ow)]; exact Blk.set_ HQ1.out 3 _)
        have L0 := Lib.hid (show Blk (X.setCell ⟨q, 3, none⟩ (.int .i64 ((kg : Int) + 1))) (q + 1) 47 _ from Blk.far HQ2.out (p := ⟨q, 3, none⟩) (by show q + 1 ≠ q; omega) _)
        have O0 := Lib.hid (show Own (X.setCell ⟨q, 3, none⟩ (.int .i64 ((kg : Int) + 1))) base 77 16 (some ⟨g, 0, none⟩) n c (rs.flatMap pgVals) from Own.setCell HOX.out ⟨q, 3, none⟩ _ (.inr (by have := HGQ.out.2; intro e; have e2 : g = q := (by simpa [ob] using e); omega)))
        have B0 := Lib.hid (show Mv (ob (some ⟨g, 0, none⟩ : Option Addr)).toList w (X.setCell ⟨q, 3, none⟩ (.int .i64 ((kg : Int) + 1))) from mv_newCell (Mv.of_below HBX.out (Nat.le_refl _)) (p := ⟨q, 3, none⟩) (by rw [HQ.out]; exact Nat.le_refl _) _)
        go_wp2_with (first | (refine wpList_load_row rfl 47 _ rfl q rfl 47 (MV F nf fc gs (some ⟨g, 0, none⟩) n c ((kg : Int) + 1) (ow)) (0, 0) _ K0.out Tryd.underlying47 rfl (mv_info _ _ _ _ _ _ _ _ _) ?_) | (refine wpList_store_row rfl 47 _ _ rfl (q + 1) (MV F nf fc gs (some ⟨g, 0, none⟩) n c ((kg : Int) + 1) (ow)) rfl rfl 47 _ L0.out (mv_info _ _ _ _ _ _ _ _ _) (mv_size _ _ _ _ _ _ _ _ _).symm (mv_one _ _ _ _ _ _ _ _ _) ?_))
        refine bodyPost_ret (results_cell2 Tryd.results59 _ _ (q + 1) 47 (MV F nf fc gs (some ⟨g, 0, none⟩) n c ((kg : Int) + 1) (ow)) (0, 0) _ rfl (L0.out.setRow _) Tryd.underlying47 rfl (mv_info _ _ _ _ _ _ _ _ _)) rfl ?_
        rw [HP.out]
        exact ⟨rfl, own_setRow_ne O0.out HKQ.out _, mv_newRow B0.out (by rw [HQ.out]; omega) _⟩
    have e17 : (op == 17) = false := by simpa using hop
    by_cases hop2 : op = 18
    · subst hop2
      by_cases hh : ho = (kg : Int) + 1
      · have e1 : (ho == (kg : Int) + 1) = true := by simpa using hh
        have HP := Lib.hid (show worldR rs ho ow (kg + 1) kg z 18 = (rs, 0, 0, true) by unfold worldR; simp only [Int.reduceEq, if_true, if_false]; rw [if_pos hh])
        clear hh
        have K0 := Lib.hid (show Blk (X.setCell ⟨q, 3, none⟩ (.int .i64 (0))) q 47 (MV F nf fc gs (some ⟨g, 0, none⟩) n c (0) (ow)) by rw [← mv_3 F nf fc gs (some ⟨g, 0, none⟩) n c (ho) (ow)]; exact Blk.set_ HQ1.out 3 _)
        have L0 := Lib.hid (show Blk (X.setCell ⟨q, 3, none⟩ (.int .i64 (0))) (q + 1) 47 _ from Blk.far HQ2.out (p := ⟨q, 3, none⟩) (by show q + 1 ≠ q; omega) _)
        have O0 := Lib.hid (show Own (X.setCell ⟨q, 3, none⟩ (.int .i64 (0))) base 77 16 (some ⟨g, 0, none⟩) n c (rs.flatMap pgVals) from Own.setCell HOX.out ⟨q, 3, none⟩ _ (.inr (by have := HGQ.out.2; intro e; have e2 : g = q := (by simpa [ob] using e); omega)))
        have B0 := Lib.hid (show Mv (ob (some ⟨g, 0, none⟩ : Option Addr)).toList w (X.setCell ⟨q, 3, none⟩ (.int .i64 (0))) from mv_newCell (Mv.of_below HBX.out (Nat.le_refl _)) (p := ⟨q, 3, none⟩) (by rw [HQ.out]; exact Nat.le_refl _) _)
        have K1 := Lib.hid (show Blk ((X.setCell ⟨q, 3, none⟩ (.int .i64 (0))).setCell ⟨q, 4, none⟩ (.int .i64 (0))) q 47 (MV F nf fc gs (some ⟨g, 0, none⟩) n c (0) (0)) by rw [← mv_4 F nf fc gs (some ⟨g, 0, none⟩) n c (0) (ow)]; exact Blk.set_ K0.out 4 _)
        have L1 := Lib.hid (show Blk ((X.setCell ⟨q, 3, none⟩ (.int .i64 (0))).setCell ⟨q, 4, none⟩ (.int .i64 (0))) (q + 1) 47 _ from Blk.far L0.out (p := ⟨q, 4, none⟩) (by show q + 1 ≠ q; omega) _)
        have O1 := Lib.hid (show Own ((X.setCell ⟨q, 3, none⟩ (.int .i64 (0))).setCell ⟨q, 4, none⟩ (.int .i64 (0))) base 77 16 (some ⟨g, 0, none⟩) n c (rs.flatMap pgVals) from Own.setCell O0.out ⟨q, 4, none⟩ _ (.inr (by have := HGQ.out.2; intro e; have e2 : g = q := (by simpa [ob] using e); omega)))
        have B1 := Lib.hid (show Mv (ob (some ⟨g, 0, none⟩ : Option Addr)).toList w ((X.setCell ⟨q, 3, none⟩ (.int .i64 (0))).setCell ⟨q, 4, none⟩ (.int .i64 (0))) from mv_newCell B0.out (p := ⟨q, 4, none⟩) (by rw [HQ.out]; exact Nat.le_refl _) _)
        go_wp2_with (first | (refine wpList_load_row rfl 47 _ rfl q rfl 47 (MV F nf fc gs (some ⟨g, 0, none⟩) n c (0) (0)) (0, 0) _ K1.out Tryd.underlying47 rfl (mv_info _ _ _ _ _ _ _ _ _) ?_) | (refine wpList_store_row rfl 47 _ _ rfl (q + 1) (MV F nf fc gs (some ⟨g, 0, none⟩) n c (0) (0)) rfl rfl 47 _ L1.out (mv_info _ _ _ _ _ _ _ _ _) (mv_size _ _ _ _ _ _ _ _ _).symm (mv_one _ _ _ _ _ _ _ _ _) ?_))
        refine bodyPost_ret (results_cell2 Tryd.results59 _ _ (q + 1) 47 (MV F nf fc gs (some ⟨g, 0, none⟩) n c (0) (0)) (0, 0) _ rfl (L1.out.setRow _) Tryd.underlying47 rfl (mv_info _ _ _ _ _ _ _ _ _)) rfl ?_
        rw [HP.out]
        exact ⟨rfl, own_setRow_ne O1.out HKQ.out _, mv_newRow B1.out (by rw [HQ.out]; omega) _⟩
      · have e1 : (ho == (kg : Int) + 1) = false := by simpa using hh
        have HP := Lib.hid (show worldR rs ho ow (kg + 1) kg z 18 = (rs, ho, ow, true) by unfold worldR; simp only [Int.reduceEq, if_true, if_false]; rw [if_neg hh])
        clear hh
        go_wp2_with (first | (refine wpList_load_row rfl 47 _ rfl q rfl 47 (MV F nf fc gs (some ⟨g, 0, none⟩) n c ho ow) (0, 0) _ HQ1.out Tryd.underlying47 rfl (mv_info _ _ _ _ _ _ _ _ _) ?_) | (refine wpList_store_row rfl 47 _ _ rfl (q + 1) (MV F nf fc gs (some ⟨g, 0, none⟩) n c ho ow) rfl rfl 47 _ HQ2.out (mv_info _ _ _ _ _ _ _ _ _) (mv_size _ _ _ _ _ _ _ _ _).symm (mv_one _ _ _ _ _ _ _ _ _) ?_))
        refine bodyPost_ret (results_cell2 Tryd.results59 _ _ (q + 1) 47 (MV F nf fc gs (some ⟨g, 0, none⟩) n c ho ow) (0, 0) _ rfl (HQ2.out.setRow _) Tryd.underlying47 rfl (mv_info _ _ _ _ _ _ _ _ _)) rfl ?_
        rw [HP.out]
        exact ⟨rfl, own_setRow_ne HOX.out HKQ.out _, mv_newRow (Mv.of_below HBX.out (Nat.le_refl _)) (by rw [HQ.out]; omega) _⟩
    have e18 : (op == 18) = false := by simpa using hop2
    by_cases hop3 : op = 19
    · subst hop3
      by_cases hh : ho = (kg : Int) + 1
      · have e1 : (ho == (kg : Int) + 1) = true := by simpa using hh
        have HP := Lib.hid (show worldR rs ho ow (kg + 1) kg z 19 = (rs, ho, ow, true) by unfold worldR; simp only [Int.reduceEq, if_true, if_false]; rw [if_pos hh])
        clear hh
        go_wp2_with (first | (refine wpList_load_row rfl 47 _ rfl q rfl 47 (MV F nf fc gs (some ⟨g, 0, none⟩) n c ho ow) (0, 0) _ HQ1.out Tryd.underlying47 rfl (mv_info _ _ _ _ _ _ _ _ _) ?_) | (refine wpList_store_row rfl 47 _ _ rfl (q + 1) (MV F nf fc gs (some ⟨g, 0, none⟩) n c ho ow) rfl rfl 47 _ HQ2.out (mv_info _ _ _ _ _ _ _ _ _) (mv_size _ _ _ _ _ _ _ _ _).symm (mv_one _ _ _ _ _ _ _ _ _) ?_))
        refine bodyPost_ret (results_cell2 Tryd.results59 _ _ (q + 1) 47 (MV F nf fc gs (some ⟨g, 0, none⟩) n c ho ow) (0, 0) _ rfl (HQ2.out.setRow _) Tryd.underlying47 rfl (mv_info _ _ _ _ _ _ _ _ _)) rfl ?_
        rw [HP.out]
        exact ⟨rfl, own_setRow_ne HOX.out HKQ.out _, mv_newRow (Mv.of_below HBX.out (Nat.le_refl _)) (by rw [HQ.out]; omega) _⟩
      · have e1 : (ho == (kg : Int) + 1) = false := by simpa using hh
        have HP := Lib.hid (show worldR rs ho ow (kg + 1) kg z 19 = (rs, ho, 0, false) by unfold worldR; simp only [Int.reduceEq, if_true, if_false]; rw [if_neg hh]; rw [HOV.out])
        clear hh
        have K0 := Lib.hid (show Blk (X.setCell ⟨q, 4, none⟩ (.int .i64 (0))) q 47 (MV F nf fc gs (some ⟨g, 0, none⟩) n c (ho) (0)) by rw [← mv_4 F nf fc gs (some ⟨g, 0, none⟩) n c (ho) (ow)]; exact Blk.set_ HQ1.out 4 _)
        have L0 := Lib.hid (show Blk (X.setCell ⟨q, 4, none⟩ (.int .i64 (0))) (q + 1) 47 _ from Blk.far HQ2.out (p := ⟨q, 4, none⟩) (by show q + 1 ≠ q; omega) _)
        have O0 := Lib.hid (show Own (X.setCell ⟨q, 4, none⟩ (.int .i64 (0))) base 77 16 (some ⟨g, 0, none⟩) n c (rs.flatMap pgVals) from Own.setCell HOX.out ⟨q, 4, none⟩ _ (.inr (by have := HGQ.out.2; intro e; have e2 : g = q := (by simpa [ob] using e); omega)))
        have B0 := Lib.hid (show Mv (ob (some ⟨g, 0, none⟩ : Option Addr)).toList w (X.setCell ⟨q, 4, none⟩ (.int .i64 (0))) from mv_newCell (Mv.of_below HBX.out (Nat.le_refl _)) (p := ⟨q, 4, none⟩) (by rw [HQ.out]; exact Nat.le_refl _) _)
        go_wp2_with (first | (refine wpList_load_row rfl 47 _ rfl q rfl 47 (MV F nf fc gs (some ⟨g, 0, none⟩) n c (ho) (0)) (0, 0) _ K0.out Tryd.underlying47 rfl (mv_info _ _ _ _ _ _ _ _ _) ?_) | (refine wpList_store_row rfl 47 _ _ rfl (q + 1) (MV F nf fc gs (some ⟨g, 0, none⟩) n c (ho) (0)) rfl rfl 47 _ L0.out (mv_info _ _ _ _ _ _ _ _ _) (mv_size _ _ _ _ _ _ _ _ _).symm (mv_one _ _ _ _ _ _ _ _ _) ?_))
        refine bodyPost_ret (results_cell2 Tryd.results59 _ _ (q + 1) 47 (MV F nf fc gs (some ⟨g, 0, none⟩) n c (ho) (0)) (0, 0) _ rfl (L0.out.setRow _) Tryd.underlying47 rfl (mv_info _ _ _ _ _ _ _ _ _)) rfl ?_
        rw [HP.out]
        exact ⟨rfl, own_setRow_ne O0.out HKQ.out _, mv_newRow B0.out (by rw [HQ.out]; omega) _⟩
    have e19 : (op == 19) = false := by simpa using hop3
    by_cases hop4 : op = 12
    · subst hop4
      by_cases hh : ho = (kg : Int) + 1
      · have e1 : (ho == (kg : Int) + 1) = true := by simpa using hh
        have HP := Lib.hid (show worldR rs ho ow (kg + 1) kg z 12 = (rs, ho, ow, true) by unfold worldR; simp only [Int.reduceEq, if_true, if_false]; rw [if_pos hh])
        clear hh
        go_wp2_with (first | (refine wpList_load_row rfl 47 _ rfl q rfl 47 (MV F nf fc gs (some ⟨g, 0, none⟩) n c ho ow) (0, 0) _ HQ1.out Tryd.underlying47 rfl (mv_info _ _ _ _ _ _ _ _ _) ?_) | (refine wpList_store_row rfl 47 _ _ rfl (q + 1) (MV F nf fc gs (some ⟨g, 0, none⟩) n c ho ow) rfl rfl 47 _ HQ2.out (mv_info _ _ _ _ _ _ _ _ _) (mv_size _ _ _ _ _ _ _ _ _).symm (mv_one _ _ _ _ _ _ _ _ _) ?_))
        refine bodyPost_ret (results_cell2 Tryd.results59 _ _ (q + 1) 47 (MV F nf fc gs (some ⟨g, 0, none⟩) n c ho ow) (0, 0) _ rfl (HQ2.out.setRow _) Tryd.underlying47 rfl (mv_info _ _ _ _ _ _ _ _ _)) rfl ?_
        rw [HP.out]
        exact ⟨rfl, own_setRow_ne HOX.out HKQ.out _, mv_newRow (Mv.of_below HBX.out (Nat.le_refl _)) (by rw [HQ.out]; omega) _⟩
      · have e1 : (ho == (kg : Int) + 1) = false := by simpa using hh
        have HP := Lib.hid (show worldR rs ho ow (kg + 1) kg z 12 = (rs.set kg { z with x := { z.x with blk := !z.x.tok, tok := false } }, ho, ow, true) by unfold worldR; simp only [Int.reduceEq, if_true, if_false]; rw [if_neg hh])
        clear hh
        obtain ⟨hn0, hz0⟩ := HNN.out
        have hk0 : kg < rs.length := (List.getElem?_eq_some_iff.1 hz0).1
        have hze0 : rs[kg] = z := by rw [List.getElem?_eq_getElem hk0] at hz0; injection hz0
        obtain ⟨g', hge, -, -, hc, hfz, hset⟩ := own_pg HOX.out hn0 hk0
        obtain rfl : g = g' := by injection hge with hge; injection hge with hge
        rw [hze0] at hc hset
        obtain ⟨z1, HZ1⟩ : ∃ x, Hid (x = ({ z with x := { z.x with blk := !z.x.tok } } : Pg)) := ⟨_, Lib.hid rfl⟩
        obtain ⟨ho1, hb1⟩ := hset 12 (.bool (!z.x.tok)) z1 (by decide) (by rw [HZ1.out]; rfl)
        have hl1 : (rs.set kg z1).length = rs.length := List.length_set
        have hk1 : kg < (rs.set kg z1).length := by rw [hl1]; exact hk0
        obtain ⟨g', hge, -, -, hc1, hfz1, hset1⟩ := own_pg ho1 (by rw [hl1]; exact hn0) hk1
        obtain rfl : g = g' := by injection hge with hge; injection hge with hge
        rw [List.getElem_set_self] at hc1 hset1
        obtain ⟨ho2, hb2⟩ := hset1 13 (.bool false) { z with x := { z.x with blk := !z.x.tok, tok := false } } (by decide) (by rw [HZ1.out]; rfl)
        rw [List.set_set] at ho2
        have x12 := hc 12 _ rfl
        have f12 := hfz 12
        have x13 := hc1 13 _ rfl
        have f13 := hfz1 13
        rw [show z1.x.tok = z.x.tok by rw [HZ1.out]] at x13
        have hgq := HGQ.out.2
        have K1 := Lib.hid (show Blk ((X.setCell ⟨g, kg * 16 + 12, none⟩ (.bool (!z.x.tok))).setCell ⟨g, kg * 16 + 13, none⟩ (.bool false)) q 47 (MV F nf fc gs (some ⟨g, 0, none⟩) n c ho ow) from Blk.far (Blk.far HQ1.out (p := ⟨g, kg * 16 + 12, none⟩) (fun e => by have e2 : q = g := e; omega) _) (p := ⟨g, kg * 16 + 13, none⟩) (fun e => by have e2 : q = g := e; omega) _)
        have L1 := Lib.hid (show Blk ((X.setCell ⟨g, kg * 16 + 12, none⟩ (.bool (!z.x.tok))).setCell ⟨g, kg * 16 + 13, none⟩ (.bool false)) (q + 1) 47 _ from Blk.far (Blk.far HQ2.out (p := ⟨g, kg * 16 + 12, none⟩) (fun e => by have e2 : q + 1 = g := e; omega) _) (p := ⟨g, kg * 16 + 13, none⟩) (fun e => by have e2 : q + 1 = g := e; omega) _)
        have q2a : (X.setCell ⟨g, kg * 16 + 12, none⟩ (.bool (!z.x.tok))).cell? ⟨q, 2, none⟩ = some (.slice (some ⟨g, 0, none⟩) n c) := ((HQ1.out.far (p := ⟨g, kg * 16 + 12, none⟩) (fun e => by have e2 : q = g := e; omega) _).cell 2).trans rfl
        have O1 := Lib.hid ho2
        have B1 := Lib.hid (show Mv (ob (some ⟨g, 0, none⟩ : Option Addr)).toList w ((X.setCell ⟨g, kg * 16 + 12, none⟩ (.bool (!z.x.tok))).setCell ⟨g, kg * 16 + 13, none⟩ (.bool false)) from ((Mv.of_below HBX.out (Nat.le_refl _)).set _ _ (by simp [ob])).set _ _ (by simp [ob]))
        clear hn0 hz0 hk0 hc hfz hset ho1 hb1 hl1 hk1 hc1 hfz1 hset1 ho2 hb2 hgq hze0
        go_wp2_with (first | (refine wpList_load_row rfl 47 _ rfl q rfl 47 (MV F nf fc gs (some ⟨g, 0, none⟩) n c ho ow) (0, 0) _ K1.out Tryd.underlying47 rfl (mv_info _ _ _ _ _ _ _ _ _) ?_) | (refine wpList_store_row rfl 47 _ _ rfl (q + 1) (MV F nf fc gs (some ⟨g, 0, none⟩) n c ho ow) rfl rfl 47 _ L1.out (mv_info _ _ _ _ _ _ _ _ _) (mv_size _ _ _ _ _ _ _ _ _).symm (mv_one _ _ _ _ _ _ _ _ _) ?_))
        refine bodyPost_ret (results_cell2 Tryd.results59 _ _ (q + 1) 47 (MV F nf fc gs (some ⟨g, 0, none⟩) n c ho ow) (0, 0) _ rfl (L1.out.setRow _) Tryd.underlying47 rfl (mv_info _ _ _ _ _ _ _ _ _)) rfl ?_
        rw [HP.out]
        exact ⟨rfl, own_setRow_ne O1.out HKQ.out _, mv_newRow B1.out (by rw [HQ.out]; omega) _⟩
    have e12 : (op == 12) = false := by simpa using hop4
    have HP := Lib.hid (show worldR rs ho ow (kg + 1) kg z op = (rs, ho, ow, true) by unfold worldR; rw [if_neg hop, if_neg hop2, if_neg hop3, if_neg hop4])
    clear hop hop2 hop3 hop4
    go_wp2_with (first | (refine wpList_load_row rfl 47 _ rfl q rfl 47 (MV F nf fc gs (some ⟨g, 0, none⟩) n c ho ow) (0, 0) _ HQ1.out Tryd.underlying47 rfl (mv_info _ _ _ _ _ _ _ _ _) ?_) | (refine wpList_store_row rfl 47 _ _ rfl (q + 1) (MV F nf fc gs (some ⟨g, 0, none⟩) n c ho ow) rfl rfl 47 _ HQ2.out (mv_info _ _ _ _ _ _ _ _ _) (mv_size _ _ _ _ _ _ _ _ _).symm (mv_one _ _ _ _ _ _ _ _ _) ?_))
    refine bodyPost_ret (results_cell2 Tryd.results59 _ _ (q + 1) 47 (MV F nf fc gs (some ⟨g, 0, none⟩) n c ho ow) (0, 0) _ rfl (HQ2.out.setRow _) Tryd.underlying47 rfl (mv_info _ _ _ _ _ _ _ _ _)) rfl ?_
    rw [HP.out]
    exact ⟨rfl, own_setRow_ne HOX.out HKQ.out _, mv_newRow (Mv.of_below HBX.out (Nat.le_refl _)) (by rw [HQ.out]; omega) _⟩
  | true =>
    rw [hbg] at y15
    by_cases hw : ow = (kg : Int) + 1
    · have e0 : (ow == (kg : Int) + 1) = true := by simpa using hw
      have HOV := Lib.hid (show (z.x.beg && decide (ow = (kg : Int) + 1)) = true by rw [hbg, Bool.true_and]; exact decide_eq_true hw)
      clear hbg hw
      go_upto_region 3 with (fail)
      clear y15 e0
      by_cases hop : op = 17
      · subst hop
        by_cases hh : ho = (kg : Int) + 1
        · have e1 : (ho == (kg : Int) + 1) = true := by simpa using hh
          have HP := Lib.hid (show worldR rs ho ow (kg + 1) kg z 17 = (rs, ho, ow, true) by unfold worldR; simp only [Int.reduceEq, if_true, if_false]; rw [if_pos hh])
          clear hh
          go_wp2_with (first | (refine wpList_load_row rfl 47 _ rfl q rfl 47 (MV F nf fc gs (some ⟨g, 0, none⟩) n c ho ow) (0, 0) _ HQ1.out Tryd.underlying47 rfl (mv_info _ _ _ _ _ _ _ _ _) ?_) | (refine wpList_store_row rfl 47 _ _ rfl (q + 1) (MV F nf fc gs (some ⟨g, 0, none⟩) n c ho ow) rfl rfl 47 _ HQ2.out (mv_info _ _ _ _ _ _ _ _ _) (mv_size _ _ _ _ _ _ _ _ _).symm (mv_one _ _ _ _ _ _ _ _ _) ?_))
          refine bodyPost_ret (results_cell2 Tryd.results59 _ _ (q + 1) 47 (MV F nf fc gs (some ⟨g, 0, none⟩) n c ho ow) (0, 0) _ rfl (HQ2.out.setRow _) Tryd.underlying47 rfl (mv_info _ _ _ _ _ _ _ _ _)) rfl ?_
          rw [HP.out]
          exact ⟨rfl, own_setRow_ne HOX.out HKQ.out _, mv_newRow (Mv.of_below HBX.out (Nat.le_refl _)) (by rw [HQ.out]; omega) _⟩
        · have e1 : (ho == (kg : Int) + 1) = false := by simpa using hh
          have HP := Lib.hid (show worldR rs ho ow (kg + 1) kg z 17 = (rs, (kg : Int) + 1, ow, true) by unfold worldR; simp only [Int.reduceEq, if_true, if_false]; rw [if_neg hh]; rw [HOV.out])
          clear hh
          have K0 := Lib.hid (show Blk (X.setCell ⟨q, 3, none⟩ (.int .i64 ((kg : Int) + 1))) q 47 (MV F nf fc gs (some ⟨g, 0, none⟩) n c ((kg : Int) + 1) (ow)) by rw [← mv_3 F nf fc gs (some ⟨g, 0, none⟩) n c (ho) (ow)]; exact Blk.set_ HQ1.out 3 _)
          have L0 := Lib.hid (show Blk (X.setCell ⟨q, 3, none⟩ (.int .i64 ((kg : Int) + 1))) (q + 1) 47 _ from Blk.far HQ2.out (p := ⟨q, 3, none⟩) (by show q + 1 ≠ q; omega) _)
          have O0 := Lib.hid (show Own (X.setCell ⟨q, 3, none⟩ (.int .i64 ((kg : Int) + 1))) base 77 16 (some ⟨g, 0, none⟩) n c (rs.flatMap pgVals) from Own.setCell HOX.out ⟨q, 3, none⟩ _ (.inr (by have := HGQ.out.2; intro e; have e2 : g = q := (by simpa [ob] using e); omega)))
          have B0 := Lib.hid (show Mv (ob (some ⟨g, 0, none⟩ : Option Addr)).toList w (X.setCell ⟨q, 3, none⟩ (.int .i64 ((kg : Int) + 1))) from mv_newCell (Mv.of_below HBX.out (Nat.le_refl _)) (p := ⟨q, 3, none⟩) (by rw [HQ.out]; exact Nat.le_refl _) _)
          go_wp2_with (first | (refine wpList_load_row rfl 47 _ rfl q rfl 47 (MV F nf fc gs (some ⟨g, 0, none⟩) n c ((kg : Int) + 1) (ow)) (0, 0) _ K0.out Tryd.underlying47 rfl (mv_info _ _ _ _ _ _ _ _ _) ?_) | (refine wpList_store_row rfl 47 _ _ rfl (q + 1) (MV F nf fc gs (some ⟨g, 0, none⟩) n c ((kg : Int) + 1) (ow)) rfl rfl 47 _ L0.out (mv_info _ _ _ _ _ _ _ _ _) (mv_size _ _ _ _ _ _ _ _ _).symm (mv_one _ _ _ _ _ _ _ _ _) ?_))
          refine bodyPost_ret (results_cell2 Tryd.results59 _ _ (q + 1) 47 (MV F nf fc gs (some ⟨g, 0, none⟩) n c ((kg : Int) + 1) (ow)) (0, 0) _ rfl (L0.out.setRow _) Tryd.underlying47 rfl (mv_info _ _ _ _ _ _ _ _ _)) rfl ?_
          rw [HP.out]
          exact ⟨rfl, own_setRow_ne O0.out HKQ.out _, mv_newRow B0.out (by rw [HQ.out]; omega) _⟩
      have e17 : (op == 17) = false := by simpa using hop
      by_cases hop2 : op = 18
      · subst hop2
        by_cases hh : ho = (kg : Int) + 1
        · have e1 : (ho == (kg : Int) + 1) = true := by simpa using hh
          have HP := Lib.hid (show worldR rs ho ow (kg + 1) kg z 18 = (rs, 0, 0, true) by unfold worldR; simp only [Int.reduceEq, if_true, if_false]; rw [if_pos hh])
          clear hh
          have K0 := Lib.hid (show Blk (X.setCell ⟨q, 3, none⟩ (.int .i64 (0))) q 47 (MV F nf fc gs (some ⟨g, 0, none⟩) n c (0) (ow)) by rw [← mv_3 F nf fc gs (some ⟨g, 0, none⟩) n c (ho) (ow)]; exact Blk.set_ HQ1.out 3 _)
          have L0 := Lib.hid (show Blk (X.setCell ⟨q, 3, none⟩ (.int .i64 (0))) (q + 1) 47 _ from Blk.far HQ2.out (p := ⟨q, 3, none⟩) (by show q + 1 ≠ q; omega) _)
          have O0 := Lib.hid (show Own (X.setCell ⟨q, 3, none⟩ (.int .i64 (0))) base 77 16 (some ⟨g, 0, none⟩) n c (rs.flatMap pgVals) from Own.setCell HOX.out ⟨q, 3, none⟩ _ (.inr (by have := HGQ.out.2; intro e; have e2 : g = q := (by simpa [ob] using e); omega)))
          have B0 := Lib.hid (show Mv (ob (some ⟨g, 0, none⟩ : Option Addr)).toList w (X.setCell ⟨q, 3, none⟩ (.int .i64 (0))) from mv_newCell (Mv.of_below HBX.out (Nat.le_refl _)) (p := ⟨q, 3, none⟩) (by rw [HQ.out]; exact Nat.le_refl _) _)
          have K1 := Lib.hid (show Blk ((X.setCell ⟨q, 3, none⟩ (.int .i64 (0))).setCell ⟨q, 4, none⟩ (.int .i64 (0))) q 47 (MV F nf fc gs (some ⟨g, 0, none⟩) n c (0) (0)) by rw [← mv_4 F nf fc gs (some ⟨g, 0, none⟩) n c (0) (ow)]; exact Blk.set_ K0.out 4 _)
          have L1 := Lib.hid (show Blk ((X.setCell ⟨q, 3, none⟩ (.int .i64 (0))).setCell ⟨q, 4, none⟩ (.int .i64 (0))) (q + 1) 47 _ from Blk.far L0.out (p := ⟨q, 4, none⟩) (by show q + 1 ≠ q; omega) _)
          have O1 := Lib.hid (show Own ((X.setCell ⟨q, 3, none⟩ (.int .i64 (0))).setCell ⟨q, 4, none⟩ (.int .i64 (0))) base 77 16 (some ⟨g, 0, none⟩) n c (rs.flatMap pgVals) from Own.setCell O0.out ⟨q, 4, none⟩ _ (.inr (by have := HGQ.out.2; intro e; have e2 : g = q := (by simpa [ob] using e); omega)))
          have B1 := Lib.hid (show Mv (ob (some ⟨g, 0, none⟩ : Option Addr)).toList w ((X.setCell ⟨q, 3, none⟩ (.int .i64 (0))).setCell ⟨q, 4, none⟩ (.int .i64 (0))) from mv_newCell B0.out (p := ⟨q, 4, none⟩) (by rw [HQ.out]; exact Nat.le_refl _) _)
          go_wp2_with (first | (refine wpList_load_row rfl 47 _ rfl q rfl 47 (MV F nf fc gs (some ⟨g, 0, none⟩) n c (0) (0)) (0, 0) _ K1.out Tryd.underlying47 rfl (mv_info _ _ _ _ _ _ _ _ _) ?_) | (refine wpList_store_row rfl 47 _ _ rfl (q + 1) (MV F nf fc gs (some ⟨g, 0, none⟩) n c (0) (0)) rfl rfl 47 _ L1.out (mv_info _ _ _ _ _ _ _ _ _) (mv_size _ _ _ _ _ _ _ _ _).symm (mv_one _ _ _ _ _ _ _ _ _) ?_))
          refine bodyPost_ret (results_cell2 Tryd.results59 _ _ (q + 1) 47 (MV F nf fc gs (some ⟨g, 0, none⟩) n c (0) (0)) (0, 0) _ rfl (L1.out.setRow _) Tryd.underlying47 rfl (mv_info _ _ _ _ _ _ _ _ _)) rfl ?_
          rw [HP.out]
          exact ⟨rfl, own_setRow_ne O1.out HKQ.out _, mv_newRow B1.out (by rw [HQ.out]; omega) _⟩
        · have e1 : (ho == (kg : Int) + 1) = false := by simpa using hh
          have HP := Lib.hid (show worldR rs ho ow (kg + 1) kg z 18 = (rs, ho, ow, true) by unfold worldR; simp only [Int.reduceEq, if_true, if_false]; rw [if_neg hh])
          clear hh
          go_wp2_with (first | (refine wpList_load_row rfl 47 _ rfl q rfl 47 (MV F nf fc gs (some ⟨g, 0, none⟩) n c ho ow) (0, 0) _ HQ1.out Tryd.underlying47 rfl (mv_info _ _ _ _ _ _ _ _ _) ?_) | (refine wpList_store_row rfl 47 _ _ rfl (q + 1) (MV F nf fc gs (some ⟨g, 0, none⟩) n c ho ow) rfl rfl 47 _ HQ2.out (mv_info _ _ _ _ _ _ _ _ _) (mv_size _ _ _ _ _ _ _ _ _).symm (mv_one _ _ _ _ _ _ _ _ _) ?_))
          refine bodyPost_ret (results_cell2 Tryd.results59 _ _ (q + 1) 47 (MV F nf fc gs (some ⟨g, 0, none⟩) n c ho ow) (0, 0) _ rfl (HQ2.out.setRow _) Tryd.underlying47 rfl (mv_info _ _ _ _ _ _ _ _ _)) rfl ?_
          rw [HP.out]
          exact ⟨rfl, own_setRow_ne HOX.out HKQ.out _, mv_newRow (Mv.of_below HBX.out (Nat.le_refl _)) (by rw [HQ.out]; omega) _⟩
      have e18 : (op == 18) = false := by simpa using hop2
      by_cases hop3 : op = 19
      · subst hop3
        by_cases hh : ho = (kg : Int) + 1
        · have e1 : (ho == (kg : Int) + 1) = true := by simpa using hh
          have HP := Lib.hid (show worldR rs ho ow (kg + 1) kg z 19 = (rs, ho, ow, true) by unfold worldR; simp only [Int.reduceEq, if_true, if_false]; rw [if_pos hh])
          clear hh
          go_wp2_with (first | (refine wpList_load_row rfl 47 _ rfl q rfl 47 (MV F nf fc gs (some ⟨g, 0, none⟩) n c ho ow) (0, 0) _ HQ1.out Tryd.underlying47 rfl (mv_info _ _ _ _ _ _ _ _ _) ?_) | (refine wpList_store_row rfl 47 _ _ rfl (q + 1) (MV F nf fc gs (some ⟨g, 0, none⟩) n c ho ow) rfl rfl 47 _ HQ2.out (mv_info _ _ _ _ _ _ _ _ _) (mv_size _ _ _ _ _ _ _ _ _).symm (mv_one _ _ _ _ _ _ _ _ _) ?_))
          refine bodyPost_ret (results_cell2 Tryd.results59 _ _ (q + 1) 47 (MV F nf fc gs (some ⟨g, 0, none⟩) n c ho ow) (0, 0) _ rfl (HQ2.out.setRow _) Tryd.underlying47 rfl (mv_info _ _ _ _ _ _ _ _ _)) rfl ?_
          rw [HP.out]
          exact ⟨rfl, own_setRow_ne HOX.out HKQ.out _, mv_newRow (Mv.of_below HBX.out (Nat.le_refl _)) (by rw [HQ.out]; omega) _⟩
        · have e1 : (ho == (kg : Int) + 1) = false := by simpa using hh
          have HP := Lib.hid (show worldR rs ho ow (kg + 1) kg z 19 = (rs, ho, 0, true) by unfold worldR; simp only [Int.reduceEq, if_true, if_false]; rw [if_neg hh]; rw [HOV.out])
          clear hh
          have K0 := Lib.hid (show Blk (X.setCell ⟨q, 4, none⟩ (.int .i64 (0))) q 47 (MV F nf fc gs (some ⟨g, 0, none⟩) n c (ho) (0)) by rw [← mv_4 F nf fc gs (some ⟨g, 0, none⟩) n c (ho) (ow)]; exact Blk.set_ HQ1.out 4 _)
          have L0 := Lib.hid (show Blk (X.setCell ⟨q, 4, none⟩ (.int .i64 (0))) (q + 1) 47 _ from Blk.far HQ2.out (p := ⟨q, 4, none⟩) (by show q + 1 ≠ q; omega) _)
          have O0 := Lib.hid (show Own (X.setCell ⟨q, 4, none⟩ (.int .i64 (0))) base 77 16 (some ⟨g, 0, none⟩) n c (rs.flatMap pgVals) from Own.setCell HOX.out ⟨q, 4, none⟩ _ (.inr (by have := HGQ.out.2; intro e; have e2 : g = q := (by simpa [ob] using e); omega)))
          have B0 := Lib.hid (show Mv (ob (some ⟨g, 0, none⟩ : Option Addr)).toList w (X.setCell ⟨q, 4, none⟩ (.int .i64 (0))) from mv_newCell (Mv.of_below HBX.out (Nat.le_refl _)) (p := ⟨q, 4, none⟩) (by rw [HQ.out]; exact Nat.le_refl _) _)
          go_wp2_with (first | (refine wpList_load_row rfl 47 _ rfl q rfl 47 (MV F nf fc gs (some ⟨g, 0, none⟩) n c (ho) (0)) (0, 0) _ K0.out Tryd.underlying47 rfl (mv_info _ _ _ _ _ _ _ _ _) ?_) | (refine wpList_store_row rfl 47 _ _ rfl (q + 1) (MV F nf fc gs (some ⟨g, 0, none⟩) n c (ho) (0)) rfl rfl 47 _ L0.out (mv_info _ _ _ _ _ _ _ _ _) (mv_size _ _ _ _ _ _ _ _ _).symm (mv_one _ _ _ _ _ _ _ _ _) ?_))
          refine bodyPost_ret (results_cell2 Tryd.results59 _ _ (q + 1) 47 (MV F nf fc gs (some ⟨g, 0, none⟩) n c (ho) (0)) (0, 0) _ rfl (L0.out.setRow _) Tryd.underlying47 rfl (mv_info _ _ _ _ _ _ _ _ _)) rfl ?_
          rw [HP.out]
          exact ⟨rfl, own_setRow_ne O0.out HKQ.out _, mv_newRow B0.out (by rw [HQ.out]; omega) _⟩
      have e19 : (op == 19) = false := by simpa using hop3
      by_cases hop4 : op = 12
      · subst hop4
        by_cases hh : ho = (kg : Int) + 1
        · have e1 : (ho == (kg : Int) + 1) = true := by simpa using hh
          have HP := Lib.hid (show worldR rs ho ow (kg + 1) kg z 12 = (rs, ho, ow, true) by unfold worldR; simp only [Int.reduceEq, if_true, if_false]; rw [if_pos hh])
          clear hh
          go_wp2_with (first | (refine wpList_load_row rfl 47 _ rfl q rfl 47 (MV F nf fc gs (some ⟨g, 0, none⟩) n c ho ow) (0, 0) _ HQ1.out Tryd.underlying47 rfl (mv_info _ _ _ _ _ _ _ _ _) ?_) | (refine wpList_store_row rfl 47 _ _ rfl (q + 1) (MV F nf fc gs (some ⟨g, 0, none⟩) n c ho ow) rfl rfl 47 _ HQ2.out (mv_info _ _ _ _ _ _ _ _ _) (mv_size _ _ _ _ _ _ _ _ _).symm (mv_one _ _ _ _ _ _ _ _ _) ?_))
          refine bodyPost_ret (results_cell2 Tryd.results59 _ _ (q + 1) 47 (MV F nf fc gs (some ⟨g, 0, none⟩) n c ho ow) (0, 0) _ rfl (HQ2.out.setRow _) Tryd.underlying47 rfl (mv_info _ _ _ _ _ _ _ _ _)) rfl ?_
          rw [HP.out]
          exact ⟨rfl, own_setRow_ne HOX.out HKQ.out _, mv_newRow (Mv.of_below HBX.out (Nat.le_refl _)) (by rw [HQ.out]; omega) _⟩
        · have e1 : (ho == (kg : Int) + 1) = false := by simpa using hh
          have HP := Lib.hid (show worldR rs ho ow (kg + 1) kg z 12 = (rs.set kg { z with x := { z.x with blk := !z.x.tok, tok := false } }, ho, ow, true) by unfold worldR; simp only [Int.reduceEq, if_true, if_false]; rw [if_neg hh])
          clear hh
          obtain ⟨hn0, hz0⟩ := HNN.out
          have hk0 : kg < rs.length := (List.getElem?_eq_some_iff.1 hz0).1
          have hze0 : rs[kg] = z := by rw [List.getElem?_eq_getElem hk0] at hz0; injection hz0
          obtain ⟨g', hge, -, -, hc, hfz, hset⟩ := own_pg HOX.out hn0 hk0
          obtain rfl : g = g' := by injection hge with hge; injection hge with hge
          rw [hze0] at hc hset
          obtain ⟨z1, HZ1⟩ : ∃ x, Hid (x = ({ z with x := { z.x with blk := !z.x.tok } } : Pg)) := ⟨_, Lib.hid rfl⟩
          obtain ⟨ho1, hb1⟩ := hset 12 (.bool (!z.x.tok)) z1 (by decide) (by rw [HZ1.out]; rfl)
          have hl1 : (rs.set kg z1).length = rs.length := List.length_set
          have hk1 : kg < (rs.set kg z1).length := by rw [hl1]; exact hk0
          obtain ⟨g', hge, -, -, hc1, hfz1, hset1⟩ := own_pg ho1 (by rw [hl1]; exact hn0) hk1
          obtain rfl : g = g' := by injection hge with hge; injection hge with hge
          rw [List.getElem_set_self] at hc1 hset1
          obtain ⟨ho2, hb2⟩ := hset1 13 (.bool false) { z with x := { z.x with blk := !z.x.tok, tok := false } } (by decide) (by rw [HZ1.out]; rfl)
          rw [List.set_set] at ho2
          have x12 := hc 12 _ rfl
          have f12 := hfz 12
          have x13 := hc1 13 _ rfl
          have f13 := hfz1 13
          rw [show z1.x.tok = z.x.tok by rw [HZ1.out]] at x13
          have hgq := HGQ.out.2
          have K1 := Lib.hid (show Blk ((X.setCell ⟨g, kg * 16 + 12, none⟩ (.bool (!z.x.tok))).setCell ⟨g, kg * 16 + 13, none⟩ (.bool false)) q 47 (MV F nf fc gs (some ⟨g, 0, none⟩) n c ho ow) from Blk.far (Blk.far HQ1.out (p := ⟨g, kg * 16 + 12, none⟩) (fun e => by have e2 : q = g := e; omega) _) (p := ⟨g, kg * 16 + 13, none⟩) (fun e => by have e2 : q = g := e; omega) _)
          have L1 := Lib.hid (show Blk ((X.setCell ⟨g, kg * 16 + 12, none⟩ (.bool (!z.x.tok))).setCell ⟨g, kg * 16 + 13, none⟩ (.bool false)) (q + 1) 47 _ from Blk.far (Blk.far HQ2.out (p := ⟨g, kg * 16 + 12, none⟩) (fun e => by have e2 : q + 1 = g := e; omega) _) (p := ⟨g, kg * 16 + 13, none⟩) (fun e => by have e2 : q + 1 = g := e; omega) _)
          have q2a : (X.setCell ⟨g, kg * 16 + 12, none⟩ (.bool (!z.x.tok))).cell? ⟨q, 2, none⟩ = some (.slice (some ⟨g, 0, none⟩) n c) := ((HQ1.out.far (p := ⟨g, kg * 16 + 12, none⟩) (fun e => by have e2 : q = g := e; omega) _).cell 2).trans rfl
          have O1 := Lib.hid ho2
          have B1 := Lib.hid (show Mv (ob (some ⟨g, 0, none⟩ : Option Addr)).toList w ((X.setCell ⟨g, kg * 16 + 12, none⟩ (.bool (!z.x.tok))).setCell ⟨g, kg * 16 + 13, none⟩ (.bool false)) from ((Mv.of_below HBX.out (Nat.le_refl _)).set _ _ (by simp [ob])).set _ _ (by simp [ob]))
          clear hn0 hz0 hk0 hc hfz hset ho1 hb1 hl1 hk1 hc1 hfz1 hset1 ho2 hb2 hgq hze0
          go_wp2_with (first | (refine wpList_load_row rfl 47 _ rfl q rfl 47 (MV F nf fc gs (some ⟨g, 0, none⟩) n c ho ow) (0, 0) _ K1.out Tryd.underlying47 rfl (mv_info _ _ _ _ _ _ _ _ _) ?_) | (refine wpList_store_row rfl 47 _ _ rfl (q + 1) (MV F nf fc gs (some ⟨g, 0, none⟩) n c ho ow) rfl rfl 47 _ L1.out (mv_info _ _ _ _ _ _ _ _ _) (mv_size _ _ _ _ _ _ _ _ _).symm (mv_one _ _ _ _ _ _ _ _ _) ?_))
          refine bodyPost_ret (results_cell2 Tryd.results59 _ _ (q + 1) 47 (MV F nf fc gs (some ⟨g, 0, none⟩) n c ho ow) (0, 0) _ rfl (L1.out.setRow _) Tryd.underlying47 rfl (mv_info _ _ _ _ _ _ _ _ _)) rfl ?_
          rw [HP.out]
          exact ⟨rfl, own_setRow_ne O1.out HKQ.out _, mv_newRow B1.out (by rw [HQ.out]; omega) _⟩
      have e12 : (op == 12) = false := by simpa using hop4
      have HP := Lib.hid (show worldR rs ho ow (kg + 1) kg z op = (rs, ho, ow, true) by unfold worldR; rw [if_neg hop, if_neg hop2, if_neg hop3, if_neg hop4])
      clear hop hop2 hop3 hop4
      go_wp2_with (first | (refine wpList_load_row rfl 47 _ rfl q rfl 47 (MV F nf fc gs (some ⟨g, 0, none⟩) n c ho ow) (0, 0) _ HQ1.out Tryd.underlying47 rfl (mv_info _ _ _ _ _ _ _ _ _) ?_) | (refine wpList_store_row rfl 47 _ _ rfl (q + 1) (MV F nf fc gs (some ⟨g, 0, none⟩) n c ho ow) rfl rfl 47 _ HQ2.out (mv_info _ _ _ _ _ _ _ _ _) (mv_size _ _ _ _ _ _ _ _ _).symm (mv_one _ _ _ _ _ _ _ _ _) ?_))
      refine bodyPost_ret (results_cell2 Tryd.results59 _ _ (q + 1) 47 (MV F nf fc gs (some ⟨g, 0, none⟩) n c ho ow) (0, 0) _ rfl (HQ2.out.setRow _) Tryd.underlying47 rfl (mv_info _ _ _ _ _ _ _ _ _)) rfl ?_
      rw [HP.out]
      exact ⟨rfl, own_setRow_ne HOX.out HKQ.out _, mv_newRow (Mv.of_below HBX.out (Nat.le_refl _)) (by rw [HQ.out]; omega) _⟩
    · have e0 : (ow == (kg : Int) + 1) = false := by simpa using hw
      have HOV := Lib.hid (show (z.x.beg && decide (ow = (kg : Int) + 1)) = false by rw [hbg, Bool.true_and]; exact decide_eq_false hw)
      clear hbg hw
      go_upto_region 3 with (fail)
      clear y15 e0
      by_cases hop : op = 17
      · subst hop
        by_cases hh : ho = (kg : Int) + 1
        · have e1 : (ho == (kg : Int) + 1) = true := by simpa using hh
          have HP := Lib.hid (show worldR rs ho ow (kg + 1) kg z 17 = (rs, ho, ow, true) by unfold worldR; simp only [Int.reduceEq, if_true, if_false]; rw [if_pos hh])
          clear hh
          go_wp2_with (first | (refine wpList_load_row rfl 47 _ rfl q rfl 47 (MV F nf fc gs (some ⟨g, 0, none⟩) n c ho ow) (0, 0) _ HQ1.out Tryd.underlying47 rfl (mv_info _ _ _ _ _ _ _ _ _) ?_) | (refine wpList_store_row rfl 47 _ _ rfl (q + 1) (MV F nf fc gs (some ⟨g, 0, none⟩) n c ho ow) rfl rfl 47 _ HQ2.out (mv_info _ _ _ _ _ _ _ _ _) (mv_size _ _ _ _ _ _ _ _ _).symm (mv_one _ _ _ _ _ _ _ _ _) ?_))
          refine bodyPost_ret (results_cell2 Tryd.results59 _ _ (q + 1) 47 (MV F nf fc gs (some ⟨g, 0, none⟩) n c ho ow) (0, 0) _ rfl (HQ2.out.setRow _) Tryd.underlying47 rfl (mv_info _ _ _ _ _ _ _ _ _)) rfl ?_
          rw [HP.out]
          exact ⟨rfl, own_setRow_ne HOX.out HKQ.out _, mv_newRow (Mv.of_below HBX.out (Nat.le_refl _)) (by rw [HQ.out]; omega) _⟩
        · have e1 : (ho == (kg : Int) + 1) = false := by simpa using hh
          have HP := Lib.hid (show worldR rs ho ow (kg + 1) kg z 17 = (rs, (kg : Int) + 1, ow, false) by unfold worldR; simp only [Int.reduceEq, if_true, if_false]; rw [if_neg hh]; rw [HOV.out])
          clear hh
          have K0 := Lib.hid (show Blk (X.setCell ⟨q, 3, none⟩ (.int .i64 ((kg : Int) + 1))) q 47 (MV F nf fc gs (some ⟨g, 0, none⟩) n c ((kg : Int) + 1) (ow)) by rw [← mv_3 F nf fc gs (some ⟨g, 0, none⟩) n c (ho) (ow)]; exact Blk.set_ HQ1.out 3 _)
          have L0 := Lib.hid (show Blk (X.setCell ⟨q, 3, none⟩ (.int .i64 ((kg : Int) + 1))) (q + 1) 47 _ from Blk.far HQ2.out (p := ⟨q, 3, none⟩) (by show q + 1 ≠ q; omega) _)
          have O0 := Lib.hid (show Own (X.setCell ⟨q, 3, none⟩ (.int .i64 ((kg : Int) + 1))) base 77 16 (some ⟨g, 0, none⟩) n c (rs.flatMap pgVals) from Own.setCell HOX.out ⟨q, 3, none⟩ _ (.inr (by have := HGQ.out.2; intro e; have e2 : g = q := (by simpa [ob] using e); omega)))
          have B0 := Lib.hid (show Mv (ob (some ⟨g, 0, none⟩ : Option Addr)).toList w (X.setCell ⟨q, 3, none⟩ (.int .i64 ((kg : Int) + 1))) from mv_newCell (Mv.of_below HBX.out (Nat.le_refl _)) (p := ⟨q, 3, none⟩) (by rw [HQ.out]; exact Nat.le_refl _) _)
          go_wp2_with (first | (refine wpList_load_row rfl 47 _ rfl q rfl 47 (MV F nf fc gs (some ⟨g, 0, none⟩) n c ((kg : Int) + 1) (ow)) (0, 0) _ K0.out Tryd.underlying47 rfl (mv_info _ _ _ _ _ _ _ _ _) ?_) | (refine wpList_store_row rfl 47 _ _ rfl (q + 1) (MV F nf fc gs (some ⟨g, 0, none⟩) n c ((kg : Int) + 1) (ow)) rfl rfl 47 _ L0.out (mv_info _ _ _ _ _ _ _ _ _) (mv_size _ _ _ _ _ _ _ _ _).symm (mv_one _ _ _ _ _ _ _ _ _) ?_))
          refine bodyPost_ret (results_cell2 Tryd.results59 _ _ (q + 1) 47 (MV F nf fc gs (some ⟨g, 0, none⟩) n c ((kg : Int) + 1) (ow)) (0, 0) _ rfl (L0.out.setRow _) Tryd.underlying47 rfl (mv_info _ _ _ _ _ _ _ _ _)) rfl ?_
          rw [HP.out]
          exact ⟨rfl, own_setRow_ne O0.out HKQ.out _, mv_newRow B0.out (by rw [HQ.out]; omega) _⟩
      have e17 : (op == 17) = false := by simpa using hop
      by_cases hop2 : op = 18
      · subst hop2
        by_cases hh : ho = (kg : Int) + 1
        · have e1 : (ho == (kg : Int) + 1) = true := by simpa using hh
          have HP := Lib.hid (show worldR rs ho ow (kg + 1) kg z 18 = (rs, 0, 0, true) by unfold worldR; simp only [Int.reduceEq, if_true, if_false]; rw [if_pos hh])
          clear hh
          have K0 := Lib.hid (show Blk (X.setCell ⟨q, 3, none⟩ (.int .i64 (0))) q 47 (MV F nf fc gs (some ⟨g, 0, none⟩) n c (0) (ow)) by rw [← mv_3 F nf fc gs (some ⟨g, 0, none⟩) n c (ho) (ow)]; exact Blk.set_ HQ1.out 3 _)
          have L0 := Lib.hid (show Blk (X.setCell ⟨q, 3, none⟩ (.int .i64 (0))) (q + 1) 47 _ from Blk.far HQ2.out (p := ⟨q, 3, none⟩) (by show q + 1 ≠ q; omega) _)
          have O0 := Lib.hid (show Own (X.setCell ⟨q, 3, none⟩ (.int .i64 (0))) base 77 16 (some ⟨g, 0, none⟩) n c (rs.flatMap pgVals) from Own.setCell HOX.out ⟨q, 3, none⟩ _ (.inr (by have := HGQ.out.2; intro e; have e2 : g = q := (by simpa [ob] using e); omega)))
          have B0 := Lib.hid (show Mv (ob (some ⟨g, 0, none⟩ : Option Addr)).toList w (X.setCell ⟨q, 3, none⟩ (.int .i64 (0))) from mv_newCell (Mv.of_below HBX.out (Nat.le_refl _)) (p := ⟨q, 3, none⟩) (by rw [HQ.out]; exact Nat.le_refl _) _)
          have K1 := Lib.hid (show Blk ((X.setCell ⟨q, 3, none⟩ (.int .i64 (0))).setCell ⟨q, 4, none⟩ (.int .i64 (0))) q 47 (MV F nf fc gs (some ⟨g, 0, none⟩) n c (0) (0)) by rw [← mv_4 F nf fc gs (some ⟨g, 0, none⟩) n c (0) (ow)]; exact Blk.set_ K0.out 4 _)
          have L1 := Lib.hid (show Blk ((X.setCell ⟨q, 3, none⟩ (.int .i64 (0))).setCell ⟨q, 4, none⟩ (.int .i64 (0))) (q + 1) 47 _ from Blk.far L0.out (p := ⟨q, 4, none⟩) (by show q + 1 ≠ q; omega) _)
          have O1 := Lib.hid (show Own ((X.setCell ⟨q, 3, none⟩ (.int .i64 (0))).setCell ⟨q, 4, none⟩ (.int .i64 (0))) base 77 16 (some ⟨g, 0, none⟩) n c (rs.flatMap pgVals) from Own.setCell O0.out ⟨q, 4, none⟩ _ (.inr (by have := HGQ.out.2; intro e; have e2 : g = q := (by simpa [ob] using e); omega)))
          have B1 := Lib.hid (show Mv (ob (some ⟨g, 0, none⟩ : Option Addr)).toList w ((X.setCell ⟨q, 3, none⟩ (.int .i64 (0))).setCell ⟨q, 4, none⟩ (.int .i64 (0))) from mv_newCell B0.out (p := ⟨q, 4, none⟩) (by rw [HQ.out]; exact Nat.le_refl _) _)
          go_wp2_with (first | (refine wpList_load_row rfl 47 _ rfl q rfl 47 (MV F nf fc gs (some ⟨g, 0, none⟩) n c (0) (0)) (0, 0) _ K1.out Tryd.underlying47 rfl (mv_info _ _ _ _ _ _ _ _ _) ?_) | (refine wpList_store_row rfl 47 _ _ rfl (q + 1) (MV F nf fc gs (some ⟨g, 0, none⟩) n c (0) (0)) rfl rfl 47 _ L1.out (mv_info _ _ _ _ _ _ _ _ _) (mv_size _ _ _ _ _ _ _ _ _).symm (mv_one _ _ _ _ _ _ _ _ _) ?_))
          refine bodyPost_ret (results_cell2 Tryd.results59 _ _ (q + 1) 47 (MV F nf fc gs (some ⟨g, 0, none⟩) n c (0) (0)) (0, 0) _ rfl (L1.out.setRow _) Tryd.underlying47 rfl (mv_info _ _ _ _ _ _ _ _ _)) rfl ?_
          rw [HP.out]
          exact ⟨rfl, own_setRow_ne O1.out HKQ.out _, mv_newRow B1.out (by rw [HQ.out]; omega) _⟩
        · have e1 : (ho == (kg : Int) + 1) = false := by simpa using hh
          have HP := Lib.hid (show worldR rs ho ow (kg + 1) kg z 18 = (rs, ho, ow, true) by unfold worldR; simp only [Int.reduceEq, if_true, if_false]; rw [if_neg hh])
          clear hh
          go_wp2_with (first | (refine wpList_load_row rfl 47 _ rfl q rfl 47 (MV F nf fc gs (some ⟨g, 0, none⟩) n c ho ow) (0, 0) _ HQ1.out Tryd.underlying47 rfl (mv_info _ _ _ _ _ _ _ _ _) ?_) | (refine wpList_store_row rfl 47 _ _ rfl (q + 1) (MV F nf fc gs (some ⟨g, 0, none⟩) n c ho ow) rfl rfl 47 _ HQ2.out (mv_info _ _ _ _ _ _ _ _ _) (mv_size _ _ _ _ _ _ _ _ _).symm (mv_one _ _ _ _ _ _ _ _ _) ?_))
          refine bodyPost_ret (results_cell2 Tryd.results59 _ _ (q + 1) 47 (MV F nf fc gs (some ⟨g, 0, none⟩) n c ho ow) (0, 0) _ rfl (HQ2.out.setRow _) Tryd.underlying47 rfl (mv_info _ _ _ _ _ _ _ _ _)) rfl ?_
          rw [HP.out]
          exact ⟨rfl, own_setRow_ne HOX.out HKQ.out _, mv_newRow (Mv.of_below HBX.out (Nat.le_refl _)) (by rw [HQ.out]; omega) _⟩
      have e18 : (op == 18) = false := by simpa using hop2
      by_cases hop3 : op = 19
      · subst hop3
        by_cases hh : ho = (kg : Int) + 1
        · have e1 : (ho == (kg : Int) + 1) = true := by simpa using hh
          have HP := Lib.hid (show worldR rs ho ow (kg + 1) kg z 19 = (rs, ho, ow, true) by unfold worldR; simp only [Int.reduceEq, if_true, if_false]; rw [if_pos hh])
          clear hh
          go_wp2_with (first | (refine wpList_load_row rfl 47 _ rfl q rfl 47 (MV F nf fc gs (some ⟨g, 0, none⟩) n c ho ow) (0, 0) _ HQ1.out Tryd.underlying47 rfl (mv_info _ _ _ _ _ _ _ _ _) ?_) | (refine wpList_store_row rfl 47 _ _ rfl (q + 1) (MV F nf fc gs (some ⟨g, 0, none⟩) n c ho ow) rfl rfl 47 _ HQ2.out (mv_info _ _ _ _ _ _ _ _ _) (mv_size _ _ _ _ _ _ _ _ _).symm (mv_one _ _ _ _ _ _ _ _ _) ?_))
          refine bodyPost_ret (results_cell2 Tryd.results59 _ _ (q + 1) 47 (MV F nf fc gs (some ⟨g, 0, none⟩) n c ho ow) (0, 0) _ rfl (HQ2.out.setRow _) Tryd.underlying47 rfl (mv_info _ _ _ _ _ _ _ _ _)) rfl ?_
          rw [HP.out]
          exact ⟨rfl, own_setRow_ne HOX.out HKQ.out _, mv_newRow (Mv.of_below HBX.out (Nat.le_refl _)) (by rw [HQ.out]; omega) _⟩
        · have e1 : (ho == (kg : Int) + 1) = false := by simpa using hh
          have HP := Lib.hid (show worldR rs ho ow (kg + 1) kg z 19 = (rs, ho, 0, false) by unfold worldR; simp only [Int.reduceEq, if_true, if_false]; rw [if_neg hh]; rw [HOV.out])
          clear hh
          have K0 := Lib.hid (show Blk (X.setCell ⟨q, 4, none⟩ (.int .i64 (0))) q 47 (MV F nf fc gs (some ⟨g, 0, none⟩) n c (ho) (0)) by rw [← mv_4 F nf fc gs (some ⟨g, 0, none⟩) n c (ho) (ow)]; exact Blk.set_ HQ1.out 4 _)
          have L0 := Lib.hid (show Blk (X.setCell ⟨q, 4, none⟩ (.int .i64 (0))) (q + 1) 47 _ from Blk.far HQ2.out (p := ⟨q, 4, none⟩) (by show q + 1 ≠ q; omega) _)
          have O0 := Lib.hid (show Own (X.setCell ⟨q, 4, none⟩ (.int .i64 (0))) base 77 16 (some ⟨g, 0, none⟩) n c (rs.flatMap pgVals) from Own.setCell HOX.out ⟨q, 4, none⟩ _ (.inr (by have := HGQ.out.2; intro e; have e2 : g = q := (by simpa [ob] using e); omega)))
          have B0 := Lib.hid (show Mv (ob (some ⟨g, 0, none⟩ : Option Addr)).toList w (X.setCell ⟨q, 4, none⟩ (.int .i64 (0))) from mv_newCell (Mv.of_below HBX.out (Nat.le_refl _)) (p := ⟨q, 4, none⟩) (by rw [HQ.out]; exact Nat.le_refl _) _)
          go_wp2_with (first | (refine wpList_load_row rfl 47 _ rfl q rfl 47 (MV F nf fc gs (some ⟨g, 0, none⟩) n c (ho) (0)) (0, 0) _ K0.out Tryd.underlying47 rfl (mv_info _ _ _ _ _ _ _ _ _) ?_) | (refine wpList_store_row rfl 47 _ _ rfl (q + 1) (MV F nf fc gs (some ⟨g, 0, none⟩) n c (ho) (0)) rfl rfl 47 _ L0.out (mv_info _ _ _ _ _ _ _ _ _) (mv_size _ _ _ _ _ _ _ _ _).symm (mv_one _ _ _ _ _ _ _ _ _) ?_))
          refine bodyPost_ret (results_cell2 Tryd.results59 _ _ (q + 1) 47 (MV F nf fc gs (some ⟨g, 0, none⟩) n c (ho) (0)) (0, 0) _ rfl (L0.out.setRow _) Tryd.underlying47 rfl (mv_info _ _ _ _ _ _ _ _ _)) rfl ?_
          rw [HP.out]
          exact ⟨rfl, own_setRow_ne O0.out HKQ.out _, mv_newRow B0.out (by rw [HQ.out]; omega) _⟩
      have e19 : (op == 19) = false := by simpa using hop3
      by_cases hop4 : op = 12
      · subst hop4
        by_cases hh : ho = (kg : Int) + 1
        · have e1 : (ho == (kg : Int) + 1) = true := by simpa using hh
          have HP := Lib.hid (show worldR rs ho ow (kg + 1) kg z 12 = (rs, ho, ow, true) by unfold worldR; simp only [Int.reduceEq, if_true, if_false]; rw [if_pos hh])
          clear hh
          go_wp2_with (first | (refine wpList_load_row rfl 47 _ rfl q rfl 47 (MV F nf fc gs (some ⟨g, 0, none⟩) n c ho ow) (0, 0) _ HQ1.out Tryd.underlying47 rfl (mv_info _ _ _ _ _ _ _ _ _) ?_) | (refine wpList_store_row rfl 47 _ _ rfl (q + 1) (MV F nf fc gs (some ⟨g, 0, none⟩) n c ho ow) rfl rfl 47 _ HQ2.out (mv_info _ _ _ _ _ _ _ _ _) (mv_size _ _ _ _ _ _ _ _ _).symm (mv_one _ _ _ _ _ _ _ _ _) ?_))
          refine bodyPost_ret (results_cell2 Tryd.results59 _ _ (q + 1) 47 (MV F nf fc gs (some ⟨g, 0, none⟩) n c ho ow) (0, 0) _ rfl (HQ2.out.setRow _) Tryd.underlying47 rfl (mv_info _ _ _ _ _ _ _ _ _)) rfl ?_
          rw [HP.out]
          exact ⟨rfl, own_setRow_ne HOX.out HKQ.out _, mv_newRow (Mv.of_below HBX.out (Nat.le_refl _)) (by rw [HQ.out]; omega) _⟩
        · have e1 : (ho == (kg : Int) + 1) = false := by simpa using hh
          have HP := Lib.hid (show worldR rs ho ow (kg + 1) kg z 12 = (rs.set kg { z with x := { z.x with blk := !z.x.tok, tok := false } }, ho, ow, true) by unfold worldR; simp only [Int.reduceEq, if_true, if_false]; rw [if_neg hh])
          clear hh
          obtain ⟨hn0, hz0⟩ := HNN.out
          have hk0 : kg < rs.length := (List.getElem?_eq_some_iff.1 hz0).1
          have hze0 : rs[kg] = z := by rw [List.getElem?_eq_getElem hk0] at hz0; injection hz0
          obtain ⟨g', hge, -, -, hc, hfz, hset⟩ := own_pg HOX.out hn0 hk0
          obtain rfl : g = g' := by injection hge with hge; injection hge with hge
          rw [hze0] at hc hset
          obtain ⟨z1, HZ1⟩ : ∃ x, Hid (x = ({ z with x := { z.x with blk := !z.x.tok } } : Pg)) := ⟨_, Lib.hid rfl⟩
          obtain ⟨ho1, hb1⟩ := hset 12 (.bool (!z.x.tok)) z1 (by decide) (by rw [HZ1.out]; rfl)
          have hl1 : (rs.set kg z1).length = rs.length := List.length_set
          have hk1 : kg < (rs.set kg z1).length := by rw [hl1]; exact hk0
          obtain ⟨g', hge, -, -, hc1, hfz1, hset1⟩ := own_pg ho1 (by rw [hl1]; exact hn0) hk1
          obtain rfl : g = g' := by injection hge with hge; injection hge with hge
          rw [List.getElem_set_self] at hc1 hset1
          obtain ⟨ho2, hb2⟩ := hset1 13 (.bool false) { z with x := { z.x with blk := !z.x.tok, tok := false } } (by decide) (by rw [HZ1.out]; rfl)
          rw [List.set_set] at ho2
          have x12 := hc 12 _ rfl
          have f12 := hfz 12
          have x13 := hc1 13 _ rfl
          have f13 := hfz1 13
          rw [show z1.x.tok = z.x.tok by rw [HZ1.out]] at x13
          have hgq := HGQ.out.2
          have K1 := Lib.hid (show Blk ((X.setCell ⟨g, kg * 16 + 12, none⟩ (.bool (!z.x.tok))).setCell ⟨g, kg * 16 + 13, none⟩ (.bool false)) q 47 (MV F nf fc gs (some ⟨g, 0, none⟩) n c ho ow) from Blk.far (Blk.far HQ1.out (p := ⟨g, kg * 16 + 12, none⟩) (fun e => by have e2 : q = g := e; omega) _) (p := ⟨g, kg * 16 + 13, none⟩) (fun e => by have e2 : q = g := e; omega) _)
          have L1 := Lib.hid (show Blk ((X.setCell ⟨g, kg * 16 + 12, none⟩ (.bool (!z.x.tok))).setCell ⟨g, kg * 16 + 13, none⟩ (.bool false)) (q + 1) 47 _ from Blk.far (Blk.far HQ2.out (p := ⟨g, kg * 16 + 12, none⟩) (fun e => by have e2 : q + 1 = g := e; omega) _) (p := ⟨g, kg * 16 + 13, none⟩) (fun e => by have e2 : q + 1 = g := e; omega) _)
          have q2a : (X.setCell ⟨g, kg * 16 + 12, none⟩ (.bool (!z.x.tok))).cell? ⟨q, 2, none⟩ = some (.slice (some ⟨g, 0, none⟩) n c) := ((HQ1.out.far (p := ⟨g, kg * 16 + 12, none⟩) (fun e => by have e2 : q = g := e; omega) _).cell 2).trans rfl
          have O1 := Lib.hid ho2
          have B1 := Lib.hid (show Mv (ob (some ⟨g, 0, none⟩ : Option Addr)).toList w ((X.setCell ⟨g, kg * 16 + 12, none⟩ (.bool (!z.x.tok))).setCell ⟨g, kg * 16 + 13, none⟩ (.bool false)) from ((Mv.of_below HBX.out (Nat.le_refl _)).set _ _ (by simp [ob])).set _ _ (by simp [ob]))
          clear hn0 hz0 hk0 hc hfz hset ho1 hb1 hl1 hk1 hc1 hfz1 hset1 ho2 hb2 hgq hze0
          go_wp2_with (first | (refine wpList_load_row rfl 47 _ rfl q rfl 47 (MV F nf fc gs (some ⟨g, 0, none⟩) n c ho ow) (0, 0) _ K1.out Tryd.underlying47 rfl (mv_info _ _ _ _ _ _ _ _ _) ?_) | (refine wpList_store_row rfl 47 _ _ rfl (q + 1) (MV F nf fc gs (some ⟨g, 0, none⟩) n c ho ow) rfl rfl 47 _ L1.out (mv_info _ _ _ _ _ _ _ _ _) (mv_size _ _ _ _ _ _ _ _ _).symm (mv_one _ _ _ _ _ _ _ _ _) ?_))
          refine bodyPost_ret (results_cell2 Tryd.results59 _ _ (q + 1) 47 (MV F nf fc gs (some ⟨g, 0, none⟩) n c ho ow) (0, 0) _ rfl (L1.out.setRow _) Tryd.underlying47 rfl (mv_info _ _ _ _ _ _ _ _ _)) rfl ?_
          rw [HP.out]
          exact ⟨rfl, own_setRow_ne O1.out HKQ.out _, mv_newRow B1.out (by rw [HQ.out]; omega) _⟩
      have e12 : (op == 12) = false := by simpa using hop4
      have HP := Lib.hid (show worldR rs ho ow (kg + 1) kg z op = (rs, ho, ow, true) by unfold worldR; rw [if_neg hop, if_neg hop2, if_neg hop3, if_neg hop4])
      clear hop hop2 hop3 hop4
      go_wp2_with (first | (refine wpList_load_row rfl 47 _ rfl q rfl 47 (MV F nf fc gs (some ⟨g, 0, none⟩) n c ho ow) (0, 0) _ HQ1.out Tryd.underlying47 rfl (mv_info _ _ _ _ _ _ _ _ _) ?_) | (refine wpList_store_row rfl 47 _ _ rfl (q + 1) (MV F nf fc gs (some ⟨g, 0, none⟩) n c ho ow) rfl rfl 47 _ HQ2.out (mv_info _ _ _ _ _ _ _ _ _) (mv_size _ _ _ _ _ _ _ _ _).symm (mv_one _ _ _ _ _ _ _ _ _) ?_))
      refine bodyPost_ret (results_cell2 Tryd.results59 _ _ (q + 1) 47 (MV F nf fc gs (some ⟨g, 0, none⟩) n c ho ow) (0, 0) _ rfl (HQ2.out.setRow _) Tryd.underlying47 rfl (mv_info _ _ _ _ _ _ _ _ _)) rfl ?_
      rw [HP.out]
      exact ⟨rfl, own_setRow_ne HOX.out HKQ.out _, mv_newRow (Mv.of_below HBX.out (Nat.le_refl _)) (by rw [HQ.out]; omega) _⟩
end Go.Proofs.YtkfpnppppmccdaaDoor

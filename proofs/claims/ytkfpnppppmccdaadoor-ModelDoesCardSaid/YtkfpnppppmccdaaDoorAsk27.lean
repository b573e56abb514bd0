/-
  Chapter 27, the reference's model: what an instruction that asks the world does (printed by ask27.py).
-/
import Derived.Test.YtkfpnppppmccdaaDoorWld27
namespace Go.Proofs.YtkfpnppppmccdaaDoor
open Go.RowKit
theorem pg_reg (z : Pg) {a : Nat} (h : a < 8) : (pgVals z)[2 + a]? = some (.int .i64 (z.x.th.regs.getD a 0)) := by
  match a, h with
  | 0, _ => rfl
  | 1, _ => rfl
  | 2, _ => rfl
  | 3, _ => rfl
  | 4, _ => rfl
  | 5, _ => rfl
  | 6, _ => rfl
  | 7, _ => rfl
def asksR (rs : List Pg) (ho gs g : Int) (kg : Nat) (r : Int) (i : Ins) : List Pg × Int × Bool :=
  if i.op = 20 then suspR rs ho g kg r
  else if i.op = 21 then ((resuR rs r).1, (resuR rs r).2, true)
  else if i.op = 13 then ((readyR rs r).1, (readyR rs r).2, true)
  else if i.op = 10 then (if gs ≤ rs.length then (rs, -1, true) else (rs ++ [⟨newGo i.n r, none, 0⟩], (rs.length : Int) + 1, true))
  else if i.op = 22 then (rs, if ho = g ∧ 1 ≤ r ∧ r ≤ 256 then 1 else 0, true)
  else if i.op = 23 then (rs, g, true)
  else (rs, 0, true)
theorem suspR_len (rs : List Pg) (ho g : Int) (kg : Nat) (r : Int) : (suspR rs ho g kg r).1.length = rs.length := by
  unfold suspR
  split
  · rfl
  · split
    · rfl
    · split
      · rfl
      · split
        · rfl
        · split
          · rfl
          · split
            · rfl
            · exact List.length_set
theorem resuR_len (rs : List Pg) (r : Int) : (resuR rs r).1.length = rs.length := by
  unfold resuR
  split
  · rfl
  · split
    · rfl
    · split
      · exact List.length_set
      · rfl
theorem readyR_len (rs : List Pg) (r : Int) : (readyR rs r).1.length = rs.length := by
  unfold readyR
  split
  · rfl
  · split
    · rfl
    · split
      · rfl
      · exact List.length_set
def SA (q : Nat) (mv : Array Value) (p : Nat) (ins : Array Value) (w : World) : Prop := Blk w q 47 mv ∧ Blk w p 64 ins
/-- What asks answers: the row may lie elsewhere then. -/
def AskOut (w : World) (base : Nat) (F : Option Addr) (nf fc : Nat) (gs : Int) (A : Option Addr) (ho ow : Int) (r : List Pg × Int × Bool) (e : Ending) (w' : World) : Prop :=
  ∃ A' n' c', e = .returned (.tuple #[.agg (MV F nf fc gs A' n' c' ho ow), .int .i64 r.2.1, .bool r.2.2]) ∧ n' = r.1.length ∧ Own w' base 77 16 A' n' c' (r.1.flatMap pgVals) ∧ Mv (ob A).toList w w' ∧ (ob A' = ob A ∨ ∀ b, ob A' = some b → w.heap.size ≤ b)
theorem blk_three (w : World) (t1 t2 t3 : TypeId) (c1 c2 c3 : Array Value) : Blk (((w.alloc (.cells c1 t1)).alloc (.cells c2 t2)).alloc (.cells c3 t3)) w.heap.size t1 c1 ∧ Blk (((w.alloc (.cells c1 t1)).alloc (.cells c2 t2)).alloc (.cells c3 t3)) (w.heap.size + 1) t2 c2 ∧ Blk (((w.alloc (.cells c1 t1)).alloc (.cells c2 t2)).alloc (.cells c3 t3)) (w.heap.size + 2) t3 c3 :=
  ⟨((Blk.new w _ _).alloc _).alloc _, Blk.alloc (heap_alloc2_new w _ _) _, blk3 w _ _ _ _⟩
set_option maxRecDepth 10000 in
set_option maxHeartbeats 8000000 in
theorem asks_any27 {w : World} {base n c nf fc : Nat} {F A : Option Addr} {rs : List Pg} {gs ho ow : Int} (hO : Own w base 77 16 A n c (rs.flatMap pgVals)) (hn : n = rs.length) (hbase : base ≤ w.heap.size) (hn100 : n ≤ 100) (hgs : gs ≤ 100) (kg : Nat) (z : Pg) (hz : rs[kg]? = some z) (i : Ins) (a : Nat) (ha : i.a = a) (ha8 : a < 8) :
    Calls Tryd.prog 60 #[.agg (MV F nf fc gs A n c ho ow), .int .i64 ((kg : Int) + 1), .agg (insArr i)] w (AskOut w base F nf fc gs A ho ow (asksR rs ho gs (kg + 1) kg (z.x.th.regs.getD a 0) i)) := by
  have hkg : kg < rs.length := (List.getElem?_eq_some_iff.1 hz).1
  have hkn : kg < n := by omega
  have hze : rs[kg] = z := by rw [List.getElem?_eq_getElem hkg] at hz; injection hz
  obtain ⟨g, rfl, hgb, hgl, hc0, -, -⟩ := own_pg hO hn hkg
  rw [hze] at hc0
  have hcr := hc0 (2 + a) _ (pg_reg z ha8)
  obtain ⟨r, HRE⟩ : ∃ r, Hid (r = z.x.th.regs.getD a 0) := ⟨_, Lib.hid rfl⟩
  rw [← HRE.out] at hcr ⊢
  obtain ⟨q, HQ⟩ : ∃ q, Hid (q = w.heap.size) := ⟨_, Lib.hid rfl⟩
  obtain ⟨W, HW⟩ : ∃ V, Hid (V = ((w.alloc (.cells (MV F nf fc gs (some ⟨g, 0, none⟩) n c ho ow) 47)).alloc (.cells (insArr i) 64)).alloc (.cells #[.slice none 0 0, .int .i64 0, .slice none 0 0, .int .i64 0, .int .i64 0] 47)) := ⟨_, Lib.hid rfl⟩
  have HBW := Lib.hid (show Below w.heap.size w W by rw [HW.out]; exact below3 w _ _ _)
  obtain ⟨h1, h2, h3⟩ := blk_three w 47 64 47 (MV F nf fc gs (some ⟨g, 0, none⟩) n c ho ow) (insArr i) #[.slice none 0 0, .int .i64 0, .slice none 0 0, .int .i64 0, .int .i64 0]
  rw [← HW.out, ← HQ.out] at h1 h2 h3
  have HW1 := Lib.hid h1
  have HW2 := Lib.hid h2
  have HW3 := Lib.hid h3
  have HOW := Lib.hid (own_below hO HBW.out)
  have HGQ := Lib.hid (show base ≤ g ∧ g < q from ⟨hgb, by rw [HQ.out]; exact hgl⟩)
  have HBS := Lib.hid hbase
  have hkq : ∀ k, ob (some ⟨g, 0, none⟩ : Option Addr) = some k → k < q + 2 := by
    intro k hk
    have h1 : g = k := by simpa [ob] using hk
    rw [← h1, HQ.out]
    omega
  have HKQ := Lib.hid hkq
  have HNN := Lib.hid (And.intro hn hz)
  have C2 : ∀ w', SB27 W w' → w'.cell? ⟨q, 2, none⟩ = some (.slice (some ⟨g, 0, none⟩) n c) := fun w' h => h.cell HW1.out rfl
  have I1 : ∀ w', SB27 W w' → w'.cell? ⟨q + 1, 1, none⟩ = some (.int .i64 (a : Int)) := fun w' h => by rw [← ha]; exact h.cell HW2.out rfl
  have R1 : ∀ w', SB27 W w' → w'.cell? ⟨g, kg * 16 + 2 + a, none⟩ = some (.int .i64 r) := fun w' h => by
    rw [Nat.add_assoc]
    exact (Below.cell (p := ⟨g, kg * 16 + (2 + a), none⟩) (HBW.out.trans (Below.mono h HBW.out.size)) hgl).trans hcr
  have m2 : (MV F nf fc gs (some ⟨g, 0, none⟩) n c ho ow)[2]? = some (.slice (some ⟨g, 0, none⟩) n c) := rfl
  have hw := HW.out
  unfold insArr at hw
  have hq := HQ.out
  have HGS := Lib.hid hgs
  clear hze hkq h1 h2 h3 hgs
  clear hO hc0 hcr hgl hgb hn hkg hz hbase ha
  have HA8 := Lib.hid ha8
  go_enter Tryd.func60, Tryd.ntmps60
  unfold insArr
  go_upto_region 1 with (fail)
  rw [← hw, ← hq]
  clear hw hq
  refine region_calm (SB27 W) (by kernel_rfl) (by kernel_rfl) (Below.drew (Below.refl _ _)) ?_
  repeat (first | go_big_quiet_skip | (go_big_quiet_want; first | (go_big_quiet_op; first | go_big_quiet_on | ((first | with_reducible refine ⟨_, fun _ _ => rfl, ?_⟩); go_big_quiet_on)) | (simp (contextual := true) [go_sem, C2, I1, R1]; with_reducible refine ⟨_, fun _ _ => rfl, ?_⟩; go_big_quiet_on)))
  refine wpQuiet_nil ?_
  intro W1 hW1
  have HB1 := Lib.hid (HBW.out.trans (Below.mono hW1 HBW.out.size))
  have HQ1 := Lib.hid (HW1.out.below hW1 HW1.out.lt)
  have HQ2 := Lib.hid (HW2.out.below hW1 HW2.out.lt)
  have HQ3 := Lib.hid (HW3.out.below hW1 HW3.out.lt)
  have HO1 := Lib.hid (own_below HOW.out hW1)
  have j0 : W1.cell? ⟨q + 1, 0, none⟩ = some (.int .i64 i.op) := (HQ2.out.cell 0).trans rfl
  have j4 : W1.cell? ⟨q + 1, 4, none⟩ = some (.int .i64 i.n) := (HQ2.out.cell 4).trans rfl
  obtain ⟨c0, c1, c2, c3, c4⟩ := mv_cells HQ1.out
  clear hW1 C2 I1 R1
  go_upto_region 3 with (fail)
  by_cases h20 : i.op = 20
  · have e20 : (i.op == 20) = true := by simpa using h20
    have HP := Lib.hid (show asksR rs ho gs (kg + 1) kg r i = suspR rs ho (kg + 1) kg r by unfold asksR; rw [if_pos h20])
    clear h20
    have HSU := Lib.hid (show Calls Tryd.prog 80 #[.agg (MV F nf fc gs (some ⟨g, 0, none⟩) n c ho ow), .int .i64 ((kg : Int) + 1), .int .i64 r] W1 _ from suspend_any27 HO1.out HNN.out.1 hn100 kg hkn r)
    go_wp2_with (refine wpList_load_row rfl 47 _ rfl (q) rfl 47 (MV F nf fc gs (some ⟨g, 0, none⟩) n c ho ow) (0, 0) _ HQ1.out Tryd.underlying47 rfl (mv_info _ _ _ _ _ _ _ _ _) ?_)
    refine HSU.out.mono ?_
    rintro e w2 ⟨rfl, ho2, hv2⟩
    have HO2 := Lib.hid ho2
    have HV2 := Lib.hid ((Mv.of_below HB1.out (Nat.le_refl _)).trans hv2)
    have HQ32 := Lib.hid (hv2.blk HQ3.out (by have h1 : g < q := HGQ.out.2; intro hc; have h2 : q + 2 = g := (by simpa [ob] using hc); omega))
    rw [show (#[.slice F nf fc, .int .i64 gs, .slice (some ⟨g, 0, none⟩) n c, .int .i64 ho, .int .i64 ow] : Array Value) = MV F nf fc gs (some ⟨g, 0, none⟩) n c ho ow from rfl]
    clear ho2 hv2
    go_wp2_with (refine wpList_store_row rfl 47 _ _ rfl (q + 2) (MV F nf fc gs (some ⟨g, 0, none⟩) n c ho ow) rfl rfl 47 _ HQ32.out (mv_info _ _ _ _ _ _ _ _ _) (mv_size _ _ _ _ _ _ _ _ _).symm (mv_one _ _ _ _ _ _ _ _ _) ?_)
    refine bodyPost_ret (results_cell3 Tryd.results60 _ _ (q + 2) 47 (MV F nf fc gs (some ⟨g, 0, none⟩) n c ho ow) (0, 0) _ rfl (HQ32.out.setRow _) Tryd.underlying47 rfl (mv_info _ _ _ _ _ _ _ _ _)) rfl ?_
    rw [HP.out]
    exact ⟨some ⟨g, 0, none⟩, n, c, rfl, by rw [suspR_len]; exact HNN.out.1, own_setRow_ne HO2.out HKQ.out _, mv_newRow HV2.out (by rw [HQ.out]; omega) _, .inl rfl⟩
  have e20 : (i.op == 20) = false := by simpa using h20
  by_cases h21 : i.op = 21
  · have e21 : (i.op == 21) = true := by simpa using h21
    have HP := Lib.hid (show asksR rs ho gs (kg + 1) kg r i = ((resuR rs r).1, (resuR rs r).2, true) by unfold asksR; rw [if_neg h20, if_pos h21])
    clear h20 h21
    have HSU := Lib.hid (show Calls Tryd.prog 81 #[.agg (MV F nf fc gs (some ⟨g, 0, none⟩) n c ho ow), .int .i64 r] W1 _ from resume_any27 HO1.out HNN.out.1 hn100 r)
    go_wp2_with (refine wpList_load_row rfl 47 _ rfl (q) rfl 47 (MV F nf fc gs (some ⟨g, 0, none⟩) n c ho ow) (0, 0) _ HQ1.out Tryd.underlying47 rfl (mv_info _ _ _ _ _ _ _ _ _) ?_)
    refine HSU.out.mono ?_
    rintro e w2 ⟨rfl, ho2, hv2⟩
    have HO2 := Lib.hid ho2
    have HV2 := Lib.hid ((Mv.of_below HB1.out (Nat.le_refl _)).trans hv2)
    have HQ32 := Lib.hid (hv2.blk HQ3.out (by have h1 : g < q := HGQ.out.2; intro hc; have h2 : q + 2 = g := (by simpa [ob] using hc); omega))
    rw [show (#[.slice F nf fc, .int .i64 gs, .slice (some ⟨g, 0, none⟩) n c, .int .i64 ho, .int .i64 ow] : Array Value) = MV F nf fc gs (some ⟨g, 0, none⟩) n c ho ow from rfl]
    clear ho2 hv2
    go_upto_region 7 with (refine wpList_store_row rfl 47 _ _ rfl w2.heap.size (MV F nf fc gs (some ⟨g, 0, none⟩) n c ho ow) rfl rfl 47 _ (Blk.new w2 _ _) (mv_info _ _ _ _ _ _ _ _ _) (mv_size _ _ _ _ _ _ _ _ _).symm (mv_one _ _ _ _ _ _ _ _ _) ?_)
    obtain ⟨w3, HW33⟩ : ∃ X, Hid (X = (w2.alloc (.cells #[.slice none 0 0, .int .i64 0, .slice none 0 0, .int .i64 0, .int .i64 0] 47)).setRow w2.heap.size (MV F nf fc gs (some ⟨g, 0, none⟩) n c ho ow)) := ⟨_, Lib.hid rfl⟩
    obtain ⟨q4, HQ4⟩ : ∃ x, Hid (x = w2.heap.size) := ⟨_, Lib.hid rfl⟩
    have hz2 := HQ32.out.lt
    have HQ43 := Lib.hid (show Blk w3 q4 47 (MV F nf fc gs (some ⟨g, 0, none⟩) n c ho ow) by rw [HW33.out, HQ4.out]; exact (Blk.new w2 _ _).setRow _)
    have HQ33 := Lib.hid (show Blk w3 (q + 2) 47 _ by rw [HW33.out]; exact (HQ32.out.alloc _).farRow (by omega) _)
    have HO3 := Lib.hid (show Own w3 base 77 16 (some ⟨g, 0, none⟩) n c ((resuR rs r).1.flatMap pgVals) by rw [HW33.out]; exact own_setRow_ne (HO2.out.alloc _) (fun k hk => by have := HKQ.out k hk; omega) _)
    have HV3 := Lib.hid (show Mv (ob (some ⟨g, 0, none⟩ : Option Addr)).toList w w3 by rw [HW33.out]; exact mv_newRow (HV2.out.trans (Mv.of_below ((Below.refl w2.heap.size w2).alloc (Nat.le_refl _) _) (Nat.le_refl _))) HV2.out.size _)
    rw [← HW33.out, ← HQ4.out]
    clear hz2
    go_wp2_with (first | (refine wpList_load_row rfl 47 _ rfl (q4) rfl 47 (MV F nf fc gs (some ⟨g, 0, none⟩) n c ho ow) (0, 0) _ HQ43.out Tryd.underlying47 rfl (mv_info _ _ _ _ _ _ _ _ _) ?_) | (refine wpList_store_row rfl 47 _ _ rfl (q + 2) (MV F nf fc gs (some ⟨g, 0, none⟩) n c ho ow) rfl rfl 47 _ HQ33.out (mv_info _ _ _ _ _ _ _ _ _) (mv_size _ _ _ _ _ _ _ _ _).symm (mv_one _ _ _ _ _ _ _ _ _) ?_))
    refine bodyPost_ret (results_cell3 Tryd.results60 _ _ (q + 2) 47 (MV F nf fc gs (some ⟨g, 0, none⟩) n c ho ow) (0, 0) _ rfl (HQ33.out.setRow _) Tryd.underlying47 rfl (mv_info _ _ _ _ _ _ _ _ _)) rfl ?_
    rw [HP.out]
    exact ⟨some ⟨g, 0, none⟩, n, c, rfl, by rw [resuR_len]; exact HNN.out.1, own_setRow_ne HO3.out HKQ.out _, mv_newRow HV3.out (by rw [HQ.out]; omega) _, .inl rfl⟩
  have e21 : (i.op == 21) = false := by simpa using h21
  by_cases h13 : i.op = 13
  · have e13 : (i.op == 13) = true := by simpa using h13
    have HP := Lib.hid (show asksR rs ho gs (kg + 1) kg r i = ((readyR rs r).1, (readyR rs r).2, true) by unfold asksR; rw [if_neg h20, if_neg h21, if_pos h13])
    clear h20 h21 h13
    have HSU := Lib.hid (show Calls Tryd.prog 82 #[.agg (MV F nf fc gs (some ⟨g, 0, none⟩) n c ho ow), .int .i64 r] W1 _ from ready_any27 HO1.out HNN.out.1 hn100 r)
    go_wp2_with (refine wpList_load_row rfl 47 _ rfl (q) rfl 47 (MV F nf fc gs (some ⟨g, 0, none⟩) n c ho ow) (0, 0) _ HQ1.out Tryd.underlying47 rfl (mv_info _ _ _ _ _ _ _ _ _) ?_)
    refine HSU.out.mono ?_
    rintro e w2 ⟨rfl, ho2, hv2⟩
    have HO2 := Lib.hid ho2
    have HV2 := Lib.hid ((Mv.of_below HB1.out (Nat.le_refl _)).trans hv2)
    have HQ32 := Lib.hid (hv2.blk HQ3.out (by have h1 : g < q := HGQ.out.2; intro hc; have h2 : q + 2 = g := (by simpa [ob] using hc); omega))
    rw [show (#[.slice F nf fc, .int .i64 gs, .slice (some ⟨g, 0, none⟩) n c, .int .i64 ho, .int .i64 ow] : Array Value) = MV F nf fc gs (some ⟨g, 0, none⟩) n c ho ow from rfl]
    clear ho2 hv2
    go_upto_region 10 with (refine wpList_store_row rfl 47 _ _ rfl w2.heap.size (MV F nf fc gs (some ⟨g, 0, none⟩) n c ho ow) rfl rfl 47 _ (Blk.new w2 _ _) (mv_info _ _ _ _ _ _ _ _ _) (mv_size _ _ _ _ _ _ _ _ _).symm (mv_one _ _ _ _ _ _ _ _ _) ?_)
    obtain ⟨w3, HW33⟩ : ∃ X, Hid (X = (w2.alloc (.cells #[.slice none 0 0, .int .i64 0, .slice none 0 0, .int .i64 0, .int .i64 0] 47)).setRow w2.heap.size (MV F nf fc gs (some ⟨g, 0, none⟩) n c ho ow)) := ⟨_, Lib.hid rfl⟩
    obtain ⟨q4, HQ4⟩ : ∃ x, Hid (x = w2.heap.size) := ⟨_, Lib.hid rfl⟩
    have hz2 := HQ32.out.lt
    have HQ43 := Lib.hid (show Blk w3 q4 47 (MV F nf fc gs (some ⟨g, 0, none⟩) n c ho ow) by rw [HW33.out, HQ4.out]; exact (Blk.new w2 _ _).setRow _)
    have HQ33 := Lib.hid (show Blk w3 (q + 2) 47 _ by rw [HW33.out]; exact (HQ32.out.alloc _).farRow (by omega) _)
    have HO3 := Lib.hid (show Own w3 base 77 16 (some ⟨g, 0, none⟩) n c ((readyR rs r).1.flatMap pgVals) by rw [HW33.out]; exact own_setRow_ne (HO2.out.alloc _) (fun k hk => by have := HKQ.out k hk; omega) _)
    have HV3 := Lib.hid (show Mv (ob (some ⟨g, 0, none⟩ : Option Addr)).toList w w3 by rw [HW33.out]; exact mv_newRow (HV2.out.trans (Mv.of_below ((Below.refl w2.heap.size w2).alloc (Nat.le_refl _) _) (Nat.le_refl _))) HV2.out.size _)
    rw [← HW33.out, ← HQ4.out]
    clear hz2
    go_wp2_with (first | (refine wpList_load_row rfl 47 _ rfl (q4) rfl 47 (MV F nf fc gs (some ⟨g, 0, none⟩) n c ho ow) (0, 0) _ HQ43.out Tryd.underlying47 rfl (mv_info _ _ _ _ _ _ _ _ _) ?_) | (refine wpList_store_row rfl 47 _ _ rfl (q + 2) (MV F nf fc gs (some ⟨g, 0, none⟩) n c ho ow) rfl rfl 47 _ HQ33.out (mv_info _ _ _ _ _ _ _ _ _) (mv_size _ _ _ _ _ _ _ _ _).symm (mv_one _ _ _ _ _ _ _ _ _) ?_))
    refine bodyPost_ret (results_cell3 Tryd.results60 _ _ (q + 2) 47 (MV F nf fc gs (some ⟨g, 0, none⟩) n c ho ow) (0, 0) _ rfl (HQ33.out.setRow _) Tryd.underlying47 rfl (mv_info _ _ _ _ _ _ _ _ _)) rfl ?_
    rw [HP.out]
    exact ⟨some ⟨g, 0, none⟩, n, c, rfl, by rw [readyR_len]; exact HNN.out.1, own_setRow_ne HO3.out HKQ.out _, mv_newRow HV3.out (by rw [HQ.out]; omega) _, .inl rfl⟩
  have e13 : (i.op == 13) = false := by simpa using h13
  by_cases h10 : i.op = 10
  · have e10 : (i.op == 10) = true := by simpa using h10
    have HP0 := Lib.hid (show asksR rs ho gs (kg + 1) kg r i = (if gs ≤ rs.length then (rs, -1, true) else (rs ++ [⟨newGo i.n r, none, 0⟩], (rs.length : Int) + 1, true)) by unfold asksR; rw [if_neg h20, if_neg h21, if_neg h13, if_pos h10])
    clear h20 h21 h13 h10
    by_cases hge : gs ≤ n
    · have e1 : decide (gs ≤ (n : Int)) = true := decide_eq_true hge
      have HP := Lib.hid (show asksR rs ho gs (kg + 1) kg r i = (rs, -1, true) by rw [HP0.out, if_pos (by rw [← HNN.out.1]; exact hge)])
      clear hge
      go_wp2_with (first | (refine wpList_load_row rfl 47 _ rfl (q) rfl 47 (MV F nf fc gs (some ⟨g, 0, none⟩) n c ho ow) (0, 0) _ HQ1.out Tryd.underlying47 rfl (mv_info _ _ _ _ _ _ _ _ _) ?_) | (refine wpList_store_row rfl 47 _ _ rfl (q + 2) (MV F nf fc gs (some ⟨g, 0, none⟩) n c ho ow) rfl rfl 47 _ HQ3.out (mv_info _ _ _ _ _ _ _ _ _) (mv_size _ _ _ _ _ _ _ _ _).symm (mv_one _ _ _ _ _ _ _ _ _) ?_))
      refine bodyPost_ret (results_cell3 Tryd.results60 _ _ (q + 2) 47 (MV F nf fc gs (some ⟨g, 0, none⟩) n c ho ow) (0, 0) _ rfl (HQ3.out.setRow _) Tryd.underlying47 rfl (mv_info _ _ _ _ _ _ _ _ _)) rfl ?_
      rw [HP.out]
      exact ⟨some ⟨g, 0, none⟩, n, c, rfl, HNN.out.1, own_setRow_ne HO1.out HKQ.out _, mv_newRow (Mv.of_below HB1.out (Nat.le_refl _)) (by rw [HQ.out]; omega) _, .inl rfl⟩
    · have e1 : decide (gs ≤ (n : Int)) = false := decide_eq_false hge
      have HP := Lib.hid (show asksR rs ho gs (kg + 1) kg r i = (rs ++ [⟨newGo i.n r, none, 0⟩], (rs.length : Int) + 1, true) by rw [HP0.out, if_neg (by rw [← HNN.out.1]; exact hge)])
      clear hge
      go_upto_region 14 with (fail)
      have HSA := Lib.hid (show SA q (MV F nf fc gs (some ⟨g, 0, none⟩) n c ho ow) (q + 1) (insArr i) W1.drew from ⟨HQ1.out.drew, HQ2.out.drew⟩)
      have S2 : ∀ w', SA q (MV F nf fc gs (some ⟨g, 0, none⟩) n c ho ow) (q + 1) (insArr i) w' → w'.cell? ⟨q, 2, none⟩ = some (.slice (some ⟨g, 0, none⟩) n c) := fun w' h => (h.1.cell 2).trans rfl
      have S4 : ∀ w', SA q (MV F nf fc gs (some ⟨g, 0, none⟩) n c ho ow) (q + 1) (insArr i) w' → w'.cell? ⟨q + 1, 4, none⟩ = some (.int .i64 i.n) := fun w' h => (h.2.cell 4).trans rfl
      refine region_schE (SA q (MV F nf fc gs (some ⟨g, 0, none⟩) n c ho ow) (q + 1) (insArr i)) [([0, 1, 2, 3, 4], 5), ([6], 7), ([], 8)] [9] 10 (by kernel_rfl) (by kernel_rfl) (by kernel_rfl) (fun _ _ d _ _ h => by cases d <;> exact h) HSA.out ?_
      (try simp only [Act.put, List.setIfInBounds_toArray, List.set_cons_zero, List.set_cons_succ]); refine schE_seg ?_; simp only [pickOps, List.getElem?_toArray, List.getElem?_cons_zero, List.getElem?_cons_succ]; (repeat (first | go_big_quiet_skip | (go_big_quiet_want; first | (go_big_quiet_op; first | go_big_quiet_on | ((first | with_reducible refine ⟨_, fun _ _ => rfl, ?_⟩); go_big_quiet_on)) | (simp (contextual := true) [go_sem, S2, S4]; with_reducible refine ⟨_, fun _ _ => rfl, ?_⟩; go_big_quiet_on)))); refine wpQuiet_nil ?_
      clear S2 S4
      go_wp2_with (go_at_call 36; refine (rNew_any i.n r _).mono ?_; rintro e w2 ⟨rfl, hb2⟩)
      have HB2 := Lib.hid (show Below W1.heap.size W1 w2 from (Below.refl W1.heap.size W1).drew.trans hb2)
      have HQ12 := Lib.hid (HQ1.out.below HB2.out HQ1.out.lt)
      have HQ22 := Lib.hid (HQ2.out.below HB2.out HQ2.out.lt)
      have HQ32 := Lib.hid (HQ3.out.below HB2.out HQ3.out.lt)
      have HO2 := Lib.hid (own_below HO1.out HB2.out)
      clear hb2
      refine ⟨SA q (MV F nf fc gs (some ⟨g, 0, none⟩) n c ho ow) (q + 1) (insArr i), ⟨HQ12.out, HQ22.out⟩, fun _ h => h, ?_⟩
      (try simp only [Act.put, List.setIfInBounds_toArray, List.set_cons_zero, List.set_cons_succ]); refine schE_seg ?_
      simp only [pickOps, List.getElem?_toArray, List.getElem?_cons_zero, List.getElem?_cons_succ]
      go_big_quiet_want
      simp (contextual := true) [go_sem, thArr]
      refine ⟨.agg #[.int .i64 i.n, .int .i64 0, .int .i64 r, .int .i64 0, .int .i64 0, .int .i64 0, .int .i64 0, .int .i64 0, .int .i64 0, .int .i64 0, .slice none 0 0, .bool false, .bool false, .bool false, .bool false, .bool false], fun _ _ => rfl, ?_⟩
      go_big_quiet_on
      refine wpQuiet_nil ?_
      go_wp2_with fail
      obtain ⟨w3, HW33⟩ : ∃ X, Hid (X = w2.alloc (.cells #[.int .i64 i.n, .int .i64 0, .int .i64 r, .int .i64 0, .int .i64 0, .int .i64 0, .int .i64 0, .int .i64 0, .int .i64 0, .int .i64 0, .slice none 0 0, .bool false, .bool false, .bool false, .bool false, .bool false] 77)) := ⟨_, Lib.hid rfl⟩
      obtain ⟨q5, HQ5⟩ : ∃ x, Hid (x = w2.heap.size) := ⟨_, Lib.hid rfl⟩
      have HQ13 := Lib.hid (show Blk w3 q 47 (MV F nf fc gs (some ⟨g, 0, none⟩) n c ho ow) by rw [HW33.out]; exact HQ12.out.alloc _)
      have HQ23 := Lib.hid (show Blk w3 (q + 1) 64 (insArr i) by rw [HW33.out]; exact HQ22.out.alloc _)
      have HQ33 := Lib.hid (show Blk w3 (q + 2) 47 _ by rw [HW33.out]; exact HQ32.out.alloc _)
      have HO3 := Lib.hid (show Own w3 base 77 16 (some ⟨g, 0, none⟩) n c (rs.flatMap pgVals) by rw [HW33.out]; exact HO2.out.alloc _)
      have hn3 : Blk w3 q5 77 #[.int .i64 i.n, .int .i64 0, .int .i64 r, .int .i64 0, .int .i64 0, .int .i64 0, .int .i64 0, .int .i64 0, .int .i64 0, .int .i64 0, .slice none 0 0, .bool false, .bool false, .bool false, .bool false, .bool false] := by rw [HW33.out, HQ5.out]; exact Blk.new _ _ _
      have HROW := Lib.hid (show Row w3 w3.heap.size (some ⟨q5, 0, none⟩) (pgVals (⟨newGo i.n r, none, 0⟩ : Pg)) from .inr ⟨q5, 0, rfl, hn3.lt, fun j u hu => by rw [Nat.zero_add, hn3.cell j]; exact (List.getElem?_toArray (xs := pgVals (⟨newGo i.n r, none, 0⟩ : Pg)) (i := j)).trans hu⟩)
      have HV3 := Lib.hid (show Below W1.heap.size W1 w3 by rw [HW33.out]; exact HB2.out.alloc HB2.out.size _)
      have HS3 := Lib.hid (show base ≤ w3.heap.size from Nat.le_trans (Nat.le_trans HBS.out HB1.out.size) HV3.out.size)
      have HL3 := Lib.hid (show q + 2 < w3.heap.size from HQ33.out.lt)
      obtain ⟨i0, hi0, hz0, hz1, hz2⟩ := info_parts Tryd.infoGz
      have HI := Lib.hid hi0
      have HZ0 := Lib.hid hz0
      have HZ1 := Lib.hid hz1
      have HZ2 := Lib.hid hz2
      rw [← HW33.out, ← HQ5.out]
      clear hn3 hi0 hz0 hz1 hz2
      refine ⟨SA q (MV F nf fc gs (some ⟨g, 0, none⟩) n c ho ow) (q + 1) (insArr i), ⟨HQ13.out, HQ23.out⟩, fun _ h => h, ?_⟩
      (try simp only [Act.put, List.setIfInBounds_toArray, List.set_cons_zero, List.set_cons_succ]); refine schE_seg ?_; simp only [pickOps, List.getElem?_toArray, List.getElem?_cons_zero, List.getElem?_cons_succ]; (repeat (first | go_big_quiet_skip | (go_big_quiet_want; first | (go_big_quiet_op; first | go_big_quiet_on | ((first | with_reducible refine ⟨_, fun _ _ => rfl, ?_⟩); go_big_quiet_on)) | (simp (contextual := true) [go_sem, HSA]; with_reducible refine ⟨_, fun _ _ => rfl, ?_⟩; go_big_quiet_on)))); refine wpQuiet_nil ?_
      go_wp2_with (at_builtin; go_must (refine wpList_append_row _ rfl _ _ 45 rfl base 77 i0 _ 16 120 Tryd.underlying45 HI.out HZ0.out HZ1.out HZ2.out rfl (by decide) (some ⟨g, 0, none⟩) n c (rs.flatMap pgVals) rfl HO3.out (some ⟨q5, 0, none⟩) 1 1 w3.heap.size (pgVals (⟨newGo i.n r, none, 0⟩ : Pg)) rfl rfl HROW.out (pgVals_one _) (by unfold maxLen; omega) (by omega) HS3.out ?_); intro A' c' w4 hown hgrow hat)
      have hgq := HGQ.out.2
      have HGR := Lib.hid (show Mv (ob (some ⟨g, 0, none⟩ : Option Addr)).toList w3 w4 from Mv.of_grown hgrow (by intro b hb; simp [hb]))
      have HQ14 := Lib.hid (HGR.out.blk HQ13.out (by intro hc; have h2 : q = g := (by simpa [ob] using hc); omega))
      have HQ24 := Lib.hid (HGR.out.blk HQ23.out (by intro hc; have h2 : q + 1 = g := (by simpa [ob] using hc); omega))
      have HQ34 := Lib.hid (HGR.out.blk HQ33.out (by intro hc; have h2 : q + 2 = g := (by simpa [ob] using hc); omega))
      have HO4 := Lib.hid hown
      have hat2 : ∀ b, ob A' = some b → b = g ∨ q + 2 < b := by
        intro b hb
        rcases hat with e | e
        · rw [e] at hb
          left
          have : g = b := by simpa [ob] using hb
          exact this.symm
        · rw [e] at hb
          injection hb with hb
          right
          rw [← hb]
          exact HL3.out
      have HAT2 := Lib.hid hat2
      have HAT := Lib.hid hat
      have HV4 := Lib.hid (show Mv (ob (some ⟨g, 0, none⟩ : Option Addr)).toList w w4 from ((Mv.of_below HB1.out (Nat.le_refl _)).trans (Mv.of_below HV3.out (Nat.le_refl _))).trans HGR.out)
      clear hown hgrow hat hat2 hgq
      refine ⟨SA q (MV F nf fc gs (some ⟨g, 0, none⟩) n c ho ow) (q + 1) (insArr i), ⟨HQ14.out, HQ24.out⟩, fun _ h => h, ?_⟩
      (try simp only [Act.put, List.setIfInBounds_toArray, List.set_cons_zero, List.set_cons_succ]); refine schE_last ?_; simp only [pickOps, List.getElem?_toArray, List.getElem?_cons_zero, List.getElem?_cons_succ]; (repeat (first | go_big_quiet_skip | (go_big_quiet_want; first | (go_big_quiet_op; first | go_big_quiet_on | ((first | with_reducible refine ⟨_, fun _ _ => rfl, ?_⟩); go_big_quiet_on)) | (simp (contextual := true) [go_sem, HSA]; with_reducible refine ⟨_, fun _ _ => rfl, ?_⟩; go_big_quiet_on)))); refine wpQuiet_nil ?_
      have x2 := (mv_cells HQ14.out).2.2.1
      have f2 := HQ14.out.frozen 2
      go_upto_region 15 with (fail)
      obtain ⟨w5, HW5⟩ : ∃ X, Hid (X = w4.setCell ⟨q, 2, none⟩ (.slice A' (n + 1) c')) := ⟨_, Lib.hid rfl⟩
      have HQ15 := Lib.hid (show Blk w5 q 47 (MV F nf fc gs A' (n + 1) c' ho ow) by rw [HW5.out, ← mv_2 F nf fc gs (some ⟨g, 0, none⟩) n c]; exact HQ14.out.set_ 2 _)
      have HQ35 := Lib.hid (show Blk w5 (q + 2) 47 _ by rw [HW5.out]; exact HQ34.out.far (p := ⟨q, 2, none⟩) (by show q + 2 ≠ q; omega) _)
      have HO5 := Lib.hid (show Own w5 base 77 16 A' (n + 1) c' (rs.flatMap pgVals ++ pgVals (⟨newGo i.n r, none, 0⟩ : Pg)) by
        rw [HW5.out]
        refine HO4.out.setCell ⟨q, 2, none⟩ _ (.inr (fun e => ?_))
        have h1 := HAT2.out q e
        have h2 := HGQ.out.2
        omega)
      have HV5 := Lib.hid (show Mv (ob (some ⟨g, 0, none⟩ : Option Addr)).toList w w5 by rw [HW5.out]; exact mv_newCell HV4.out (by rw [HQ.out]; exact Nat.le_refl _) _)
      have y2 := (mv_cells HQ15.out).2.2.1
      rw [← HW5.out]
      have HSL : ∀ w', SQ q (MV F nf fc gs A' (n + 1) c' ho ow) w' → (loadVar 47 ⟨q, 0, none⟩).run Tryd.prog w' = .ok (.agg (MV F nf fc gs A' (n + 1) c' ho ow)) w' := fun w' h => run_loadVar_cells w' q 0 _ _ _ (fun j v hv => by rw [Nat.zero_add]; exact (Blk.cell h j).trans hv) Tryd.underlying47 rfl (mv_info _ _ _ _ _ _ _ _ _)
      have HSH : ∀ w', SQ q (MV F nf fc gs A' (n + 1) c' ho ow) w' → w'.cell? ⟨q, 2, none⟩ = some (.slice A' (n + 1) c') := fun w' h => (Blk.cell h 2).trans rfl
      refine region_sch (SQ q (MV F nf fc gs A' (n + 1) c' ho ow)) [([0, 1, 2, 3], 4)] [5, 6] (by kernel_rfl) (by kernel_rfl) (by kernel_rfl) (fun _ _ d _ _ h => by cases d <;> exact h) HQ15.out ?_
      (try simp only [Act.put, List.setIfInBounds_toArray, List.set_cons_zero, List.set_cons_succ]); refine sch_seg ?_; simp only [pickOps, List.getElem?_toArray, List.getElem?_cons_zero, List.getElem?_cons_succ]; (repeat (first | (refine quiet_load_at (by rfl) 47 _ rfl ⟨q, 0, none⟩ rfl (MV F nf fc gs A' (n + 1) c' ho ow) HSL ?_; simp only [Act.put, List.setIfInBounds_toArray, List.set_cons_zero, List.set_cons_succ]) | go_big_quiet_skip | (go_big_quiet_want; first | (go_big_quiet_op; first | go_big_quiet_on | ((first | with_reducible refine ⟨_, fun _ _ => rfl, ?_⟩); go_big_quiet_on)) | (simp (contextual := true) [go_sem, HSH]; with_reducible refine ⟨_, fun _ _ => rfl, ?_⟩; go_big_quiet_on)))); refine wpQuiet_nil ?_
      go_wp2_with (refine wpList_store_row rfl 47 _ _ rfl (q + 2) (MV F nf fc gs A' (n + 1) c' ho ow) rfl rfl 47 _ HQ35.out.drew (mv_info _ _ _ _ _ _ _ _ _) (mv_size _ _ _ _ _ _ _ _ _).symm (mv_one _ _ _ _ _ _ _ _ _) ?_)
      refine ⟨SQ q (MV F nf fc gs A' (n + 1) c' ho ow), HQ15.out.drew.farRow (by omega) _, fun _ h => h, ?_⟩
      (try simp only [Act.put]); refine sch_end ?_; simp only [pickOps, List.getElem?_toArray, List.getElem?_cons_zero, List.getElem?_cons_succ]; (repeat (first | go_big_quiet_skip | (go_big_quiet_want; first | (go_big_quiet_op; first | go_big_quiet_on | ((first | with_reducible refine ⟨_, fun _ _ => rfl, ?_⟩); go_big_quiet_on)) | (simp (contextual := true) [go_sem, HSH]; with_reducible refine ⟨_, fun _ _ => rfl, ?_⟩; go_big_quiet_on)))); refine wpQuiet_nil ?_
      go_wp2_with fail
      refine bodyPost_ret (results_cell3 Tryd.results60 _ _ (q + 2) 47 (MV F nf fc gs A' (n + 1) c' ho ow) (0, 0) _ rfl (HQ35.out.drew.setRow _) Tryd.underlying47 rfl (mv_info _ _ _ _ _ _ _ _ _)) rfl ?_
      rw [HP.out]
      refine ⟨A', n + 1, c', by rw [HNN.out.1]; rfl, by rw [HNN.out.1]; simp, ?_, mv_newRow (HV5.out.trans (Mv.of_below (Below.refl w5.heap.size w5).drew (Nat.le_refl _))) (by rw [HQ.out]; omega) _, ?_⟩
      · show Own _ base 77 16 A' (n + 1) c' ((rs ++ [(⟨newGo i.n r, none, 0⟩ : Pg)]).flatMap pgVals)
        rw [List.flatMap_append, show [(⟨newGo i.n r, none, 0⟩ : Pg)].flatMap pgVals = pgVals (⟨newGo i.n r, none, 0⟩ : Pg) by simp]
        refine Own.kept (World.ownsRow.drew HO5.out) (grown_setRow _ _ _) ?_
        cases hA : ob A' with
        | none => exact .inl rfl
        | some b =>
          refine .inr fun e => ?_
          have h1 := HAT2.out b hA
          have h2 := HGQ.out.2
          injection e with e
          omega
      · rcases HAT.out with e | e
        · exact .inl e
        · refine .inr fun b hb => ?_
          rw [e] at hb
          injection hb with hb
          rw [← hb]
          exact Nat.le_trans HB1.out.size HV3.out.size
  have e10 : (i.op == 10) = false := by simpa using h10
  by_cases h22 : i.op = 22
  · have e22 : (i.op == 22) = true := by simpa using h22
    have HP0 := Lib.hid (show asksR rs ho gs (kg + 1) kg r i = (rs, if ho = kg + 1 ∧ 1 ≤ r ∧ r ≤ 256 then 1 else 0, true) by unfold asksR; rw [if_neg h20, if_neg h21, if_neg h13, if_neg h10, if_pos h22])
    clear h20 h21 h13 h10 h22
    by_cases x1 : ho = (kg : Int) + 1
    · have d1 : (ho == (kg : Int) + 1) = true := by simpa using x1
      by_cases x2 : 1 ≤ r
      · have d2 : decide (1 ≤ r) = true := decide_eq_true x2
        by_cases x3 : r ≤ 256
        · have d3 : decide (r ≤ 256) = true := decide_eq_true x3
          go_upto_region 18 with (fail)
          have HP := Lib.hid (show asksR rs ho gs (kg + 1) kg r i = (rs, 1, true) by rw [HP0.out]; rw [if_pos ⟨x1, x2, x3⟩])
          clear x1 x2 x3
          go_wp2_with (first | (refine wpList_load_row rfl 47 _ rfl (q) rfl 47 (MV F nf fc gs (some ⟨g, 0, none⟩) n c ho ow) (0, 0) _ HQ1.out Tryd.underlying47 rfl (mv_info _ _ _ _ _ _ _ _ _) ?_) | (refine wpList_store_row rfl 47 _ _ rfl (q + 2) (MV F nf fc gs (some ⟨g, 0, none⟩) n c ho ow) rfl rfl 47 _ HQ3.out (mv_info _ _ _ _ _ _ _ _ _) (mv_size _ _ _ _ _ _ _ _ _).symm (mv_one _ _ _ _ _ _ _ _ _) ?_))
          refine bodyPost_ret (results_cell3 Tryd.results60 _ _ (q + 2) 47 (MV F nf fc gs (some ⟨g, 0, none⟩) n c ho ow) (0, 0) _ rfl (HQ3.out.setRow _) Tryd.underlying47 rfl (mv_info _ _ _ _ _ _ _ _ _)) rfl ?_
          rw [HP.out]
          exact ⟨some ⟨g, 0, none⟩, n, c, rfl, HNN.out.1, own_setRow_ne HO1.out HKQ.out _, mv_newRow (Mv.of_below HB1.out (Nat.le_refl _)) (by rw [HQ.out]; omega) _, .inl rfl⟩
        · have d3 : decide (r ≤ 256) = false := decide_eq_false x3
          go_upto_region 21 with (fail)
          have HP := Lib.hid (show asksR rs ho gs (kg + 1) kg r i = (rs, 0, true) by rw [HP0.out]; rw [if_neg (fun h => x3 h.2.2)])
          clear x1 x2 x3
          go_wp2_with (first | (refine wpList_load_row rfl 47 _ rfl (q) rfl 47 (MV F nf fc gs (some ⟨g, 0, none⟩) n c ho ow) (0, 0) _ HQ1.out Tryd.underlying47 rfl (mv_info _ _ _ _ _ _ _ _ _) ?_) | (refine wpList_store_row rfl 47 _ _ rfl (q + 2) (MV F nf fc gs (some ⟨g, 0, none⟩) n c ho ow) rfl rfl 47 _ HQ3.out (mv_info _ _ _ _ _ _ _ _ _) (mv_size _ _ _ _ _ _ _ _ _).symm (mv_one _ _ _ _ _ _ _ _ _) ?_))
          refine bodyPost_ret (results_cell3 Tryd.results60 _ _ (q + 2) 47 (MV F nf fc gs (some ⟨g, 0, none⟩) n c ho ow) (0, 0) _ rfl (HQ3.out.setRow _) Tryd.underlying47 rfl (mv_info _ _ _ _ _ _ _ _ _)) rfl ?_
          rw [HP.out]
          exact ⟨some ⟨g, 0, none⟩, n, c, rfl, HNN.out.1, own_setRow_ne HO1.out HKQ.out _, mv_newRow (Mv.of_below HB1.out (Nat.le_refl _)) (by rw [HQ.out]; omega) _, .inl rfl⟩
      · have d2 : decide (1 ≤ r) = false := decide_eq_false x2
        go_upto_region 21 with (fail)
        have HP := Lib.hid (show asksR rs ho gs (kg + 1) kg r i = (rs, 0, true) by rw [HP0.out]; rw [if_neg (fun h => x2 h.2.1)])
        clear x1 x2
        go_wp2_with (first | (refine wpList_load_row rfl 47 _ rfl (q) rfl 47 (MV F nf fc gs (some ⟨g, 0, none⟩) n c ho ow) (0, 0) _ HQ1.out Tryd.underlying47 rfl (mv_info _ _ _ _ _ _ _ _ _) ?_) | (refine wpList_store_row rfl 47 _ _ rfl (q + 2) (MV F nf fc gs (some ⟨g, 0, none⟩) n c ho ow) rfl rfl 47 _ HQ3.out (mv_info _ _ _ _ _ _ _ _ _) (mv_size _ _ _ _ _ _ _ _ _).symm (mv_one _ _ _ _ _ _ _ _ _) ?_))
        refine bodyPost_ret (results_cell3 Tryd.results60 _ _ (q + 2) 47 (MV F nf fc gs (some ⟨g, 0, none⟩) n c ho ow) (0, 0) _ rfl (HQ3.out.setRow _) Tryd.underlying47 rfl (mv_info _ _ _ _ _ _ _ _ _)) rfl ?_
        rw [HP.out]
        exact ⟨some ⟨g, 0, none⟩, n, c, rfl, HNN.out.1, own_setRow_ne HO1.out HKQ.out _, mv_newRow (Mv.of_below HB1.out (Nat.le_refl _)) (by rw [HQ.out]; omega) _, .inl rfl⟩
    · have d1 : (ho == (kg : Int) + 1) = false := by simpa using x1
      go_upto_region 21 with (fail)
      have HP := Lib.hid (show asksR rs ho gs (kg + 1) kg r i = (rs, 0, true) by rw [HP0.out]; rw [if_neg (fun h => x1 h.1)])
      clear x1
      go_wp2_with (first | (refine wpList_load_row rfl 47 _ rfl (q) rfl 47 (MV F nf fc gs (some ⟨g, 0, none⟩) n c ho ow) (0, 0) _ HQ1.out Tryd.underlying47 rfl (mv_info _ _ _ _ _ _ _ _ _) ?_) | (refine wpList_store_row rfl 47 _ _ rfl (q + 2) (MV F nf fc gs (some ⟨g, 0, none⟩) n c ho ow) rfl rfl 47 _ HQ3.out (mv_info _ _ _ _ _ _ _ _ _) (mv_size _ _ _ _ _ _ _ _ _).symm (mv_one _ _ _ _ _ _ _ _ _) ?_))
      refine bodyPost_ret (results_cell3 Tryd.results60 _ _ (q + 2) 47 (MV F nf fc gs (some ⟨g, 0, none⟩) n c ho ow) (0, 0) _ rfl (HQ3.out.setRow _) Tryd.underlying47 rfl (mv_info _ _ _ _ _ _ _ _ _)) rfl ?_
      rw [HP.out]
      exact ⟨some ⟨g, 0, none⟩, n, c, rfl, HNN.out.1, own_setRow_ne HO1.out HKQ.out _, mv_newRow (Mv.of_below HB1.out (Nat.le_refl _)) (by rw [HQ.out]; omega) _, .inl rfl⟩
  have e22 : (i.op == 22) = false := by simpa using h22
  by_cases h23 : i.op = 23
  · have e23 : (i.op == 23) = true := by simpa using h23
    have HP := Lib.hid (show asksR rs ho gs (kg + 1) kg r i = (rs, (kg : Int) + 1, true) by unfold asksR; rw [if_neg h20, if_neg h21, if_neg h13, if_neg h10, if_neg h22, if_pos h23])
    clear h20 h21 h13 h10 h22 h23
    go_wp2_with (first | (refine wpList_load_row rfl 47 _ rfl (q) rfl 47 (MV F nf fc gs (some ⟨g, 0, none⟩) n c ho ow) (0, 0) _ HQ1.out Tryd.underlying47 rfl (mv_info _ _ _ _ _ _ _ _ _) ?_) | (refine wpList_store_row rfl 47 _ _ rfl (q + 2) (MV F nf fc gs (some ⟨g, 0, none⟩) n c ho ow) rfl rfl 47 _ HQ3.out (mv_info _ _ _ _ _ _ _ _ _) (mv_size _ _ _ _ _ _ _ _ _).symm (mv_one _ _ _ _ _ _ _ _ _) ?_))
    refine bodyPost_ret (results_cell3 Tryd.results60 _ _ (q + 2) 47 (MV F nf fc gs (some ⟨g, 0, none⟩) n c ho ow) (0, 0) _ rfl (HQ3.out.setRow _) Tryd.underlying47 rfl (mv_info _ _ _ _ _ _ _ _ _)) rfl ?_
    rw [HP.out]
    exact ⟨some ⟨g, 0, none⟩, n, c, rfl, HNN.out.1, own_setRow_ne HO1.out HKQ.out _, mv_newRow (Mv.of_below HB1.out (Nat.le_refl _)) (by rw [HQ.out]; omega) _, .inl rfl⟩
  have e23 : (i.op == 23) = false := by simpa using h23
  have HP := Lib.hid (show asksR rs ho gs (kg + 1) kg r i = (rs, 0, true) by unfold asksR; rw [if_neg h20, if_neg h21, if_neg h13, if_neg h10, if_neg h22, if_neg h23])
  clear h20 h21 h13 h10 h22 h23
  go_wp2_with (first | (refine wpList_load_row rfl 47 _ rfl (q) rfl 47 (MV F nf fc gs (some ⟨g, 0, none⟩) n c ho ow) (0, 0) _ HQ1.out Tryd.underlying47 rfl (mv_info _ _ _ _ _ _ _ _ _) ?_) | (refine wpList_store_row rfl 47 _ _ rfl (q + 2) (MV F nf fc gs (some ⟨g, 0, none⟩) n c ho ow) rfl rfl 47 _ HQ3.out (mv_info _ _ _ _ _ _ _ _ _) (mv_size _ _ _ _ _ _ _ _ _).symm (mv_one _ _ _ _ _ _ _ _ _) ?_))
  refine bodyPost_ret (results_cell3 Tryd.results60 _ _ (q + 2) 47 (MV F nf fc gs (some ⟨g, 0, none⟩) n c ho ow) (0, 0) _ rfl (HQ3.out.setRow _) Tryd.underlying47 rfl (mv_info _ _ _ _ _ _ _ _ _)) rfl ?_
  rw [HP.out]
  exact ⟨some ⟨g, 0, none⟩, n, c, rfl, HNN.out.1, own_setRow_ne HO1.out HKQ.out _, mv_newRow (Mv.of_below HB1.out (Nat.le_refl _)) (by rw [HQ.out]; omega) _, .inl rfl⟩
end Go.Proofs.YtkfpnppppmccdaaDoor

/-
  Chapter 27, the reference's model: New (printed by rnw27.py).
-/
import Derived.Test.YtkfpnppppmccdaaDoorAsk27
namespace Go.Proofs.YtkfpnppppmccdaaDoor
open Go.RowKit
/-- What the reference's New answers. -/
def RNewOut (w : World) (F : Option Addr) (fc : Nat) (fs : List Fn) (p g q : Int) (e : Ending) (w' : World) : Prop :=
  Below w.heap.size w w' ∧ ((newF fs p g q ≠ 0 ∧ e = .returned (.tuple #[.agg (MV none 0 0 0 none 0 0 0 0), .int .i64 (newF fs p g q)])) ∨ (newF fs p g q = 0 ∧ ∃ A' c' rs', e = .returned (.tuple #[.agg (MV F fs.length fc g A' 1 c' 0 0), .int .i64 0]) ∧ RIs w' F fs (md0 g) A' rs' ∧ rs'.length = 1 ∧ ∀ b, ob A' = some b → w.heap.size ≤ b))
def SPC (q : Nat) (a b : Array Value) (w : World) : Prop := Blk w q 24 a ∧ Blk w (q + 1) 26 b
theorem ris_new {w : World} {F : Option Addr} {fs : List Fn} {g : Int} {lb : Nat} (hl : Blk w lb 77 #[.int .i64 0, .int .i64 0, .int .i64 0, .int .i64 0, .int .i64 0, .int .i64 0, .int .i64 0, .int .i64 0, .int .i64 0, .int .i64 0, .slice none 0 0, .bool false, .bool false, .bool false, .bool false, .bool false]) (hr : runB fs = true) (hf : FnsOk w w.heap.size F fs) (hfl : fs.length ≤ maxLen) : RIs w F fs (md0 g) (some ⟨lb, 0, none⟩) [(⟨newGo 0 0, none, 0⟩ : Pg)] := by
  refine ⟨rfl, .inr ⟨lb, 0, rfl, hl.lt, fun j u hu => ?_⟩, fun z hz => ?_, by decide, ⟨hf, hfl⟩, fun z hz => ?_, fun z hz => ?_⟩
  · rw [Nat.zero_add, hl.cell j]
    have h1 : ([(⟨newGo 0 0, none, 0⟩ : Pg)].flatMap pgVals) = pgVals (⟨newGo 0 0, none, 0⟩ : Pg) := by simp
    rw [h1] at hu
    exact (List.getElem?_toArray (xs := pgVals (⟨newGo 0 0, none, 0⟩ : Pg)) (i := j)).trans hu
  · rw [List.mem_singleton] at hz
    subst hz
    exact ⟨rfl, .inl rfl, Nat.zero_le _, by show (0 : Nat) ≤ 2 ^ 63 - 1; decide⟩
  · rw [List.mem_singleton] at hz
    subst hz
    exact new_fits hr (Int.le_refl _) (by have := (run_fn hr).1; omega) 0
  · rw [List.mem_singleton] at hz
    subst hz
    exact Nat.zero_le _
set_option maxRecDepth 10000 in
set_option maxHeartbeats 2000000 in
theorem rnew27_any {w : World} {F : Option Addr} {fc : Nat} {fs : List Fn} (hf : FnsOk w w.heap.size F fs) (hfl : fs.length ≤ maxLen) (p g q0 : Int) :
    Calls Tryd.prog 18 #[.agg #[.slice F fs.length fc], .agg #[.int .i64 p, .int .i64 g, .int .i64 q0]] w (RNewOut w F fc fs p g q0) := by
  obtain ⟨q, HQ⟩ : ∃ q, Hid (q = w.heap.size) := ⟨_, Lib.hid rfl⟩
  obtain ⟨W, HW⟩ : ∃ V, Hid (V = ((w.alloc (.cells #[.slice F fs.length fc] 24)).alloc (.cells #[.int .i64 p, .int .i64 g, .int .i64 q0] 26)).alloc (.cells #[.slice none 0 0, .int .i64 0, .slice none 0 0, .int .i64 0, .int .i64 0] 47)) := ⟨_, Lib.hid rfl⟩
  have HBW := Lib.hid (show Below w.heap.size w W by rw [HW.out]; exact below3 w _ _ _)
  obtain ⟨h1, h2, h3⟩ := blk_three w 24 26 47 #[.slice F fs.length fc] #[.int .i64 p, .int .i64 g, .int .i64 q0] #[.slice none 0 0, .int .i64 0, .slice none 0 0, .int .i64 0, .int .i64 0]
  rw [← HW.out, ← HQ.out] at h1 h2 h3
  have HP := Lib.hid h1
  have HC := Lib.hid h2
  have H3 := Lib.hid h3
  have HF := Lib.hid hf
  have HFL := Lib.hid hfl
  have P0 : ∀ w', SB27 W w' → w'.cell? ⟨q, 0, none⟩ = some (.slice F fs.length fc) := fun w' h => h.cell HP.out rfl
  have C0 : ∀ w', SB27 W w' → w'.cell? ⟨q + 1, 0, none⟩ = some (.int .i64 p) := fun w' h => h.cell HC.out rfl
  have C1 : ∀ w', SB27 W w' → w'.cell? ⟨q + 1, 1, none⟩ = some (.int .i64 g) := fun w' h => h.cell HC.out rfl
  have C2 : ∀ w', SB27 W w' → w'.cell? ⟨q + 1, 2, none⟩ = some (.int .i64 q0) := fun w' h => h.cell HC.out rfl
  have HCK := Lib.hid (rcheckP_any F fc fs W hfl ((hf.below HBW.out).more HBW.out.size))
  have HCF := Lib.hid (rconf_any p g q0)
  have hw := HW.out
  have hq := HQ.out
  have p0 := P0 W (Below.refl _ _)
  obtain ⟨a, b, f, HTRI⟩ : ∃ a b f, Hid (checkP fs = (a, b, f)) := ⟨_, _, _, Lib.hid rfl⟩
  rw [HTRI.out] at HCK
  have HRB := Lib.hid (show runB fs = decide (f = 0) by unfold runB; rw [HTRI.out])
  unfold tri at HCK
  simp only at HCK
  clear hf hfl h1 h2 h3
  by_cases hf0 : f = 0
  · have ef : (f == 0) = true := by simpa using hf0
    have ef2 : (f != 0) = false := by simpa using hf0
    have HR := Lib.hid (show runB fs = true by rw [HRB.out]; exact decide_eq_true hf0)
    have HNF := Lib.hid (show newF fs p g q0 = confF p g q0 by unfold newF; rw [if_pos HR.out])
    obtain ⟨cv, HCV⟩ : ∃ cv, Hid (cv = confF p g q0) := ⟨_, Lib.hid rfl⟩
    rw [← HCV.out] at HNF
    simp only [← HCV.out] at HCF
    clear hf0
    go_enter Tryd.func18, Tryd.ntmps18
    go_upto_region 1 with (fail)
    rw [← hw, ← hq]
    clear hw hq
    go_wp2_with fail
    refine HCK.out.mono ?_
    rintro e W1 ⟨rfl, hb1⟩
    have HB1 := Lib.hid (show SB27 W W1 from hb1)
    clear hb1
    have c0 := C0 W1 HB1.out
    have c1 := C1 W1 HB1.out
    have c2 := C2 W1 HB1.out
    go_upto_region 4 with (fail)
    go_wp2_with fail
    refine (HCF.out W1).mono ?_
    rintro e W2 ⟨rfl, hb2⟩
    have HB2 := Lib.hid (show SB27 W W2 from HB1.out.trans (hb2.mono (Below.size HB1.out)))
    clear hb2 c0 c1 c2
    by_cases hc0 : cv = 0
    · have ec : (cv == 0) = true := by simpa using hc0
      have ec2 : (cv != 0) = false := by simpa using hc0
      rw [hc0] at HNF
      clear hc0
      go_upto_region 7 with (fail)
      have HSD := Lib.hid (show (SPC q #[.slice F fs.length fc] #[.int .i64 p, .int .i64 g, .int .i64 q0]) W2.drew from ⟨(HP.out.below HB2.out HP.out.lt).drew, (HC.out.below HB2.out HC.out.lt).drew⟩)
      have LP : ∀ w', (SPC q #[.slice F fs.length fc] #[.int .i64 p, .int .i64 g, .int .i64 q0]) w' → (loadVar 24 ⟨q, 0, none⟩).run Tryd.prog w' = .ok (.agg #[.slice F fs.length fc]) w' := fun w' h => run_loadVar_cells w' q 0 _ _ _ (fun j v hv => by
        rw [Nat.zero_add]
        exact (Blk.cell h.1 j).trans hv) Tryd.underlying24 rfl (Tryd.infoPr1 _)
      have D1 : ∀ w', (SPC q #[.slice F fs.length fc] #[.int .i64 p, .int .i64 g, .int .i64 q0]) w' → w'.cell? ⟨q + 1, 1, none⟩ = some (.int .i64 g) := fun w' h => (Blk.cell h.2 1).trans rfl
      refine region_sch (SPC q #[.slice F fs.length fc] #[.int .i64 p, .int .i64 g, .int .i64 q0]) [([0, 1, 2], 3), ([4], 5), ([6], 7)] [8] (by kernel_rfl) (by kernel_rfl) (by kernel_rfl) (fun _ _ d _ _ h => by cases d <;> exact h) HSD.out ?_
      (try simp only [Act.put, List.setIfInBounds_toArray, List.set_cons_zero, List.set_cons_succ]); refine sch_seg ?_; simp only [pickOps, List.getElem?_toArray, List.getElem?_cons_zero, List.getElem?_cons_succ]; (repeat (first | (refine quiet_load_at (by rfl) 24 _ rfl ⟨q, 0, none⟩ rfl #[.slice F fs.length fc] LP ?_; simp only [Act.put, List.setIfInBounds_toArray, List.set_cons_zero, List.set_cons_succ]) | go_big_quiet_skip | (go_big_quiet_want; first | (go_big_quiet_op; first | go_big_quiet_on | ((first | with_reducible refine ⟨_, fun _ _ => rfl, ?_⟩); go_big_quiet_on)) | (simp (contextual := true) [go_sem, D1]; with_reducible refine ⟨_, fun _ _ => rfl, ?_⟩; go_big_quiet_on)))); refine wpQuiet_nil ?_
      clear LP D1 P0 C0 C1 C2 p0
      go_wp2_with (go_at_call 36; refine (rNew_any 0 0 _).mono ?_; rintro e W3 ⟨rfl, hb3⟩)
      have HB3 := Lib.hid (show SB27 W W3 from Below.trans (Below.drew HB2.out) (hb3.mono (Below.size (Below.drew HB2.out))))
      clear hb3
      refine ⟨SPC q #[.slice F fs.length fc] #[.int .i64 p, .int .i64 g, .int .i64 q0], ⟨HP.out.below HB3.out HP.out.lt, HC.out.below HB3.out HC.out.lt⟩, fun _ h => h, ?_⟩
      (try simp only [Act.put, List.setIfInBounds_toArray, List.set_cons_zero, List.set_cons_succ]); refine sch_seg ?_
      simp only [pickOps, List.getElem?_toArray, List.getElem?_cons_zero, List.getElem?_cons_succ]
      go_big_quiet_want
      simp (contextual := true) [go_sem, thArr]
      refine ⟨.agg #[.int .i64 0, .int .i64 0, .int .i64 0, .int .i64 0, .int .i64 0, .int .i64 0, .int .i64 0, .int .i64 0, .int .i64 0, .int .i64 0, .slice none 0 0, .bool false, .bool false, .bool false, .bool false, .bool false], fun _ _ => rfl, ?_⟩
      go_big_quiet_on
      refine wpQuiet_nil ?_
      go_wp2_with fail
      obtain ⟨W4, HW4⟩ : ∃ X, Hid (X = W3.alloc (.cells #[.int .i64 0, .int .i64 0, .int .i64 0, .int .i64 0, .int .i64 0, .int .i64 0, .int .i64 0, .int .i64 0, .int .i64 0, .int .i64 0, .slice none 0 0, .bool false, .bool false, .bool false, .bool false, .bool false] 77)) := ⟨_, Lib.hid rfl⟩
      obtain ⟨lb, HLB⟩ : ∃ x, Hid (x = W3.heap.size) := ⟨_, Lib.hid rfl⟩
      have HB4 := Lib.hid (show SB27 W W4 by rw [HW4.out]; exact Below.alloc HB3.out (Below.size HB3.out) _)
      have HL4 := Lib.hid (show Blk W4 lb 77 #[.int .i64 0, .int .i64 0, .int .i64 0, .int .i64 0, .int .i64 0, .int .i64 0, .int .i64 0, .int .i64 0, .int .i64 0, .int .i64 0, .slice none 0 0, .bool false, .bool false, .bool false, .bool false, .bool false] by rw [HW4.out, HLB.out]; exact Blk.new _ _ _)
      have HLQ := Lib.hid (show q + 2 < lb by rw [HLB.out]; exact (H3.out.below HB3.out H3.out.lt).lt)
      rw [← HW4.out, ← HLB.out]
      refine ⟨SPC q #[.slice F fs.length fc] #[.int .i64 p, .int .i64 g, .int .i64 q0], ⟨HP.out.below HB4.out HP.out.lt, HC.out.below HB4.out HC.out.lt⟩, fun _ h => h, ?_⟩
      (try simp only [Act.put, List.setIfInBounds_toArray, List.set_cons_zero, List.set_cons_succ]); refine sch_seg ?_; simp only [pickOps, List.getElem?_toArray, List.getElem?_cons_zero, List.getElem?_cons_succ]; (repeat (first | go_big_quiet_skip | (go_big_quiet_want; first | (go_big_quiet_op; first | go_big_quiet_on | ((first | with_reducible refine ⟨_, fun _ _ => rfl, ?_⟩); go_big_quiet_on)) | (simp (contextual := true) [go_sem, HF]; with_reducible refine ⟨_, fun _ _ => rfl, ?_⟩; go_big_quiet_on)))); refine wpQuiet_nil ?_
      go_wp2_with (refine wpList_store_row rfl 47 _ _ rfl (q + 2) (MV F fs.length fc g (some ⟨lb, 0, none⟩) 1 1 0 0) rfl rfl 47 _ (H3.out.below HB4.out H3.out.lt) (mv_info _ _ _ _ _ _ _ _ _) (mv_size _ _ _ _ _ _ _ _ _).symm (mv_one _ _ _ _ _ _ _ _ _) ?_)
      refine ⟨SPC q #[.slice F fs.length fc] #[.int .i64 p, .int .i64 g, .int .i64 q0], ⟨(HP.out.below HB4.out HP.out.lt).farRow (by omega) _, (HC.out.below HB4.out HC.out.lt).farRow (by omega) _⟩, fun _ h => h, ?_⟩
      (try simp only [Act.put]); refine sch_end ?_; simp only [pickOps, List.getElem?_toArray, List.getElem?_cons_zero, List.getElem?_cons_succ]; (repeat (first | go_big_quiet_skip | (go_big_quiet_want; first | (go_big_quiet_op; first | go_big_quiet_on | ((first | with_reducible refine ⟨_, fun _ _ => rfl, ?_⟩); go_big_quiet_on)) | (simp (contextual := true) [go_sem, HF]; with_reducible refine ⟨_, fun _ _ => rfl, ?_⟩; go_big_quiet_on)))); refine wpQuiet_nil ?_
      go_wp2_with fail
      refine bodyPost_ret (results_cell2 Tryd.results18 _ _ (q + 2) 47 (MV F fs.length fc g (some ⟨lb, 0, none⟩) 1 1 0 0) (0, 0) _ rfl (Blk.setRow (H3.out.below HB4.out H3.out.lt) _) Tryd.underlying47 rfl (mv_info _ _ _ _ _ _ _ _ _)) rfl ?_
      have hbf := below_setRow (HBW.out.trans (Below.mono HB4.out HBW.out.size)) (by rw [HQ.out]; omega : w.heap.size ≤ q + 2) (HBW.out.trans (Below.mono HB4.out HBW.out.size)).size (MV F fs.length fc g (some ⟨lb, 0, none⟩) 1 1 0 0)
      exact ⟨hbf, .inr ⟨HNF.out, some ⟨lb, 0, none⟩, 1, [(⟨newGo 0 0, none, 0⟩ : Pg)], rfl, ris_new (HL4.out.farRow (by have := HLQ.out; omega) _) HR.out (HF.out.step hbf) HFL.out, rfl, fun b hb => by have h1 := HLQ.out; have h2 := HQ.out; have h3 : lb = b := (by simpa [ob] using hb); omega⟩⟩
    · have ec : (cv == 0) = false := by simpa using hc0
      have ec2 : (cv != 0) = true := by simpa using hc0
      have HNE := Lib.hid (show newF fs p g q0 ≠ 0 by rw [HNF.out]; exact hc0)
      clear hc0
      have hz : (.agg #[.slice none 0 0, .int .i64 0, .slice none 0 0, .int .i64 0, .int .i64 0] : Value) = .agg (MV none 0 0 0 none 0 0 0 0) := rfl
      go_upto_region 6 with (fail)
      go_wp2_with (refine wpList_store_row rfl 47 _ _ rfl (q + 2) (MV none 0 0 0 none 0 0 0 0) rfl rfl 47 _ (H3.out.below HB2.out H3.out.lt) (mv_info _ _ _ _ _ _ _ _ _) (mv_size _ _ _ _ _ _ _ _ _).symm (mv_one _ _ _ _ _ _ _ _ _) ?_)
      refine bodyPost_ret (results_cell2 Tryd.results18 _ _ (q + 2) 47 (MV none 0 0 0 none 0 0 0 0) (0, 0) _ rfl (Blk.setRow (H3.out.below HB2.out H3.out.lt) _) Tryd.underlying47 rfl (mv_info _ _ _ _ _ _ _ _ _)) rfl ?_
      exact ⟨below_setRow (HBW.out.trans (Below.mono HB2.out HBW.out.size)) (by rw [HQ.out]; omega) (HBW.out.trans (Below.mono HB2.out HBW.out.size)).size _, .inl ⟨HNE.out, by rw [HNF.out]; rfl⟩⟩
  · have ef : (f == 0) = false := by simpa using hf0
    have ef2 : (f != 0) = true := by simpa using hf0
    have HNF := Lib.hid (show newF fs p g q0 = 1 by unfold newF; rw [HRB.out, if_neg (by simpa using hf0)])
    clear hf0
    go_enter Tryd.func18, Tryd.ntmps18
    go_upto_region 1 with (fail)
    rw [← hw, ← hq]
    clear hw hq
    go_wp2_with fail
    refine HCK.out.mono ?_
    rintro e W1 ⟨rfl, hb1⟩
    have HB1 := Lib.hid (show SB27 W W1 from hb1)
    clear hb1
    go_upto_region 3 with (fail)
    go_wp2_with (refine wpList_store_row rfl 47 _ _ rfl (q + 2) (MV none 0 0 0 none 0 0 0 0) rfl rfl 47 _ (H3.out.below HB1.out H3.out.lt) (mv_info _ _ _ _ _ _ _ _ _) (mv_size _ _ _ _ _ _ _ _ _).symm (mv_one _ _ _ _ _ _ _ _ _) ?_)
    refine bodyPost_ret (results_cell2 Tryd.results18 _ _ (q + 2) 47 (MV none 0 0 0 none 0 0 0 0) (0, 0) _ rfl (Blk.setRow (H3.out.below HB1.out H3.out.lt) _) Tryd.underlying47 rfl (mv_info _ _ _ _ _ _ _ _ _)) rfl ?_
    exact ⟨below_setRow (HBW.out.trans (Below.mono HB1.out HBW.out.size)) (by rw [HQ.out]; omega) (HBW.out.trans (Below.mono HB1.out HBW.out.size)).size _, .inl ⟨by rw [HNF.out]; decide, by rw [HNF.out]; rfl⟩⟩
end Go.Proofs.YtkfpnppppmccdaaDoor

/-
  Chapter 11: contract of vm.At. Conditions: program and thread lie in memory; the table isa.rows.
-/
import Derived.Test.YtoacnphgkgklcaaDoorVm9
namespace Go.Proofs.YtoacnphgkgklcaaDoor
open Go.RowKit
def atB (fs : List Fn) (t : Th) : Bool := !t.done && fitsT fs t
set_option maxHeartbeats 4000000 in
set_option maxRecDepth 100000 in
theorem vmAt_any (t : Th) (A B : Option Addr) (c d : Nat) (fs : List Fn) (w : World) (hT : Tab w) (hm0 : fs.length ≤ maxLen) (hf : FnsOk w w.heap.size A fs) (ht : ThOk w w.heap.size t B d) :
    Calls Tryd.prog 11 #[.agg #[.slice A fs.length c], .agg (thArr t B d)] w fun e w' => e = .returned (.tuple #[.agg (insArr (if atB fs t then insAt fs t.fn t.pc else zeroIns)), .bool (atB fs t)]) ∧ Below w.heap.size w w' := by
  have h0 := thArr_0 (t := t) B d
  have h1 := thArr_1 (t := t) B d
  have h11 := thArr_11 B d ht.regs
  have HM := Lib.hid hm0
  have HTA := Lib.hid hT
  have HT := Lib.hid ht
  have HF := Lib.hid hf
  have HSZ := Lib.hid (show (Tryd.prog.info? 28).map (·.size) = some (thArr t B d).size by rw [thArr_size B d ht.regs]; exact Tryd.infoTh)
  unfold maxLen at hm0
  generalize hX : thArr t B d = X at *
  have HX := Lib.hid hX
  clear hX hT hf ht
  cases hdn : t.done with
  | true =>
    rw [hdn] at h11
    have HE := Lib.hid (show atB fs t = false by unfold atB; rw [hdn]; rfl)
    rw [HE.out]
    clear hdn h0 h1
    go_enter Tryd.func11, Tryd.ntmps11
    go_wp2_with fail
    exact bodyPost_ret (v := .tuple #[.agg (insArr zeroIns), .bool false]) (results_cell2 Tryd.results11 _ _ (w.heap.size + 2) 32 (insArr zeroIns) (0, 0) _ rfl (blk3 w _ _ 32 (insArr zeroIns)) Tryd.underlying32 rfl Tryd.infoInsS) rfl ⟨by simp, below3 w _ _ _⟩
  | false =>
    rw [hdn] at h11
    have HE := Lib.hid (show atB fs t = fitsT fs t by unfold atB; rw [hdn]; rfl)
    rw [HE.out]
    have hb0 := below3 w (.cells #[.slice A fs.length c] 24) (.cells X 28) (.cells #[.int .i64 0, .int .i64 0, .int .i64 0, .int .i64 0, .int .i64 0] 32)
    have hW : ∃ W : World, Hid (W = ((w.alloc (.cells #[.slice A fs.length c] 24)).alloc (.cells X 28)).alloc (.cells #[.int .i64 0, .int .i64 0, .int .i64 0, .int .i64 0, .int .i64 0] 32)) := ⟨_, rfl⟩
    obtain ⟨W, HW⟩ := hW
    have hBP : Blk W w.heap.size 24 #[.slice A fs.length c] := by rw [HW.out]; exact ((Blk.new w _ _).alloc _).alloc _
    have hBT : Blk W (w.heap.size + 1) 28 X := by rw [HW.out]; exact Blk.alloc (heap_alloc2_new w _ _) _
    have hBI : Blk W (w.heap.size + 2) 32 #[.int .i64 0, .int .i64 0, .int .i64 0, .int .i64 0, .int .i64 0] := by
      rw [HW.out]
      exact blk3 w _ _ _ _
    rw [← HW.out] at hb0
    have HB0 := Lib.hid hb0
    have HBP := Lib.hid hBP
    have HBT := Lib.hid hBT
    have HBI := Lib.hid hBI
    have HDN := Lib.hid hdn
    have k11 : W.cell? ⟨w.heap.size + 1, 11, none⟩ = some (.bool false) := (hBT.cell 11).trans h11
    have kp : W.cell? ⟨w.heap.size, 0, none⟩ = some (.slice A fs.length c) := hBP.cell 0
    have HH0 := Lib.hid h0
    have HH1 := Lib.hid h1
    clear hb0 hBP hBT hBI hdn h0 h1
    cases hfit : fitsT fs t with
    | false =>
      have HFIT := Lib.hid hfit
      clear hfit
      go_enter Tryd.func11, Tryd.ntmps11
      go_wp2_with (refine wpList_load_rowW (by rfl) 28 _ rfl (w.heap.size + 1) rfl 28 X (0, 0) _ (by rw [← HW.out]; exact HBT.out) Tryd.underlying28 rfl HSZ.out ?_)
      rw [← HW.out, ← HX.out]
      refine (vmFits_any t A B c d fs W (HTA.out.step HB0.out) HM.out (HF.out.step HB0.out) (HT.out.step HB0.out)).mono ?_
      rintro e w1 ⟨rfl, hb1⟩
      have HB1 := Lib.hid (HB0.out.trans (hb1.mono HB0.out.size))
      have hBP := HBP.out.below hb1 HBP.out.lt
      have hBT := HBT.out.below hb1 HBT.out.lt
      have hBI := HBI.out.below hb1 HBI.out.lt
      clear hb1 k11 kp
      rw [HFIT.out]
      have HBI1 := Lib.hid hBI
      clear hBP hBT hBI
      go_wp2_with (refine wpList_store_row rfl 32 _ _ rfl (w.heap.size + 2) (insArr zeroIns) rfl rfl 32 _ HBI1.out Tryd.infoInsS rfl (insArr_one zeroIns) ?_)
      refine bodyPost_ret (v := .tuple #[.agg (insArr zeroIns), .bool false]) (results_cell2 Tryd.results11 _ _ (w.heap.size + 2) 32 (insArr zeroIns) (0, 0) _ rfl (HBI1.out.setRow _) Tryd.underlying32 rfl Tryd.infoInsS) rfl ⟨by simp, ?_⟩
      exact below_setRow HB1.out (by omega) HB1.out.size _
    | true =>
      obtain ⟨_, k, m, ek, em, hk, hm, ei⟩ := fits_place hfit HDN.out
      have h0 := HH0.out
      have h1 := HH1.out
      rw [ei]
      rw [ek] at h0
      rw [em] at h1
      have HI0 := Lib.hid h0
      have HI1 := Lib.hid h1
      have HFIT := Lib.hid hfit
      clear hfit h0 h1 ek em ei
      go_enter Tryd.func11, Tryd.ntmps11
      go_wp2_with (refine wpList_load_rowW (by rfl) 28 _ rfl (w.heap.size + 1) rfl 28 X (0, 0) _ (by rw [← HW.out]; exact HBT.out) Tryd.underlying28 rfl HSZ.out ?_)
      rw [← HW.out, ← HX.out]
      refine (vmFits_any t A B c d fs W (HTA.out.step HB0.out) HM.out (HF.out.step HB0.out) (HT.out.step HB0.out)).mono ?_
      rintro e w1 ⟨rfl, hb1⟩
      have HB1 := Lib.hid (HB0.out.trans (hb1.mono HB0.out.size))
      have hBP := HBP.out.below hb1 HBP.out.lt
      have hBT := HBT.out.below hb1 HBT.out.lt
      have hBI := HBI.out.below hb1 HBI.out.lt
      clear hb1 k11 kp
      rw [HFIT.out]
      have h0 := HI0.out
      have h1 := HI1.out
      have HBI1 := Lib.hid hBI
      obtain ⟨b, off, b2, off2, an, ac, rfl, hbl, hbl2, hma, hna, hc0, hok, i0, i1, i2, i3, i4⟩ := (HF.out.below HB1.out).fetch hk hm
      have hz : w.heap.size + 2 < w1.heap.size := hBI.lt
      generalize hI : fs[k].code[m] = ins at *
      have HI := Lib.hid hI
      unfold maxLen at hna
      have S0 : ∀ w', Below (w.heap.size + 2) w1 w' → w'.cell? ⟨w.heap.size, 0, none⟩ = some (.slice (some ⟨b, off, none⟩) fs.length c) := fun w' h => (h.cell (p := ⟨w.heap.size, 0, none⟩) (by simp)).trans (hBP.cell 0)
      have S1 : ∀ w', Below (w.heap.size + 2) w1 w' → w'.cell? ⟨w.heap.size + 1, 0, none⟩ = some (.int .i64 k) := fun w' h => (h.cell (p := ⟨w.heap.size + 1, 0, none⟩) (by simp)).trans ((hBT.cell 0).trans h0)
      have S2 : ∀ w', Below (w.heap.size + 2) w1 w' → w'.cell? ⟨w.heap.size + 1, 1, none⟩ = some (.int .i64 m) := fun w' h => (h.cell (p := ⟨w.heap.size + 1, 1, none⟩) (by simp)).trans ((hBT.cell 1).trans h1)
      have S3 : ∀ w', Below (w.heap.size + 2) w1 w' → w'.cell? ⟨b, off + k * 2, none⟩ = some (.slice (some ⟨b2, off2, none⟩) an ac) := fun w' h => (h.cell (p := ⟨b, off + k * 2, none⟩) (by show b < _; omega)).trans hc0
      have S4 : ∀ w', Below (w.heap.size + 2) w1 w' → w'.cell? ⟨b2, off2 + m * 5, none⟩ = some (.int .i64 ins.op) := fun w' h => (h.cell (p := ⟨b2, off2 + m * 5, none⟩) (by show b2 < _; omega)).trans i0
      have S5 : ∀ w', Below (w.heap.size + 2) w1 w' → w'.cell? ⟨b2, off2 + m * 5 + 1, none⟩ = some (.int .i64 ins.a) := fun w' h => (h.cell (p := ⟨b2, off2 + m * 5 + 1, none⟩) (by show b2 < _; omega)).trans i1
      have S6 : ∀ w', Below (w.heap.size + 2) w1 w' → w'.cell? ⟨b2, off2 + m * 5 + 2, none⟩ = some (.int .i64 ins.b) := fun w' h => (h.cell (p := ⟨b2, off2 + m * 5 + 2, none⟩) (by show b2 < _; omega)).trans i2
      have S7 : ∀ w', Below (w.heap.size + 2) w1 w' → w'.cell? ⟨b2, off2 + m * 5 + 3, none⟩ = some (.int .i64 ins.c) := fun w' h => (h.cell (p := ⟨b2, off2 + m * 5 + 3, none⟩) (by show b2 < _; omega)).trans i3
      have S8 : ∀ w', Below (w.heap.size + 2) w1 w' → w'.cell? ⟨b2, off2 + m * 5 + 4, none⟩ = some (.int .i64 ins.n) := fun w' h => (h.cell (p := ⟨b2, off2 + m * 5 + 4, none⟩) (by show b2 < _; omega)).trans i4
      clear h0 h1 hBP hBT hBI hc0 i0 i1 i2 i3 i4 hok hI
      go_wp2_with fail
      refine region_sch (fun w' => Below (w.heap.size + 2) w1 w') [([0, 1, 2, 3, 4, 5, 6, 7, 8, 9, 10], 11)] [12] (by kernel_rfl) (by kernel_rfl) (by kernel_rfl) (fun _ _ d _ _ h => by cases d <;> exact h) (Below.refl _ _).drew ?_
      (try simp only [Act.put, List.setIfInBounds_toArray, List.set_cons_zero, List.set_cons_succ]); refine sch_seg ?_; simp only [pickOps, List.getElem?_toArray, List.getElem?_cons_zero, List.getElem?_cons_succ]; (repeat (first | go_big_quiet_skip | (go_big_quiet_want; first | (go_big_quiet_op; first | go_big_quiet_on | ((first | with_reducible refine ⟨_, fun _ _ => rfl, ?_⟩); go_big_quiet_on)) | (simp (contextual := true) [go_sem, S0, S1, S2, S3, S4, S5, S6, S7, S8]; with_reducible refine ⟨_, fun _ _ => rfl, ?_⟩; go_big_quiet_on)))); refine wpQuiet_nil ?_
      clear S0 S1 S2 S3 S4 S5 S6 S7 S8
      go_wp2_with (refine wpList_store_row rfl 32 _ _ rfl (w.heap.size + 2) (insArr ins) rfl rfl 32 _ (show w1.drew.heap[w.heap.size + 2]? = _ from HBI1.out) Tryd.infoInsS rfl (insArr_one ins) ?_)
      refine ⟨fun w' => Below (w.heap.size + 2) w1 w', below_setRow (Below.refl _ _).drew (Nat.le_refl _) (by show _ ≤ w1.heap.size; omega) _, fun _ h => h, ?_⟩
      (try simp only [Act.put]); refine sch_end ?_; simp only [pickOps, List.getElem?_toArray, List.getElem?_cons_zero, List.getElem?_cons_succ]; (repeat (first | go_big_quiet_skip | (go_big_quiet_want; first | (go_big_quiet_op; first | go_big_quiet_on | ((first | with_reducible refine ⟨_, fun _ _ => rfl, ?_⟩); go_big_quiet_on)) | (simp (contextual := true) [go_sem, HB0]; with_reducible refine ⟨_, fun _ _ => rfl, ?_⟩; go_big_quiet_on)))); refine wpQuiet_nil ?_
      go_wp2_with fail
      refine bodyPost_ret (v := .tuple #[.agg (insArr ins), .bool true]) (results_cell2 Tryd.results11 _ _ (w.heap.size + 2) 32 (insArr ins) (0, 0) _ rfl (Blk.setRow (show Blk w1.drew (w.heap.size + 2) _ _ from HBI1.out) _) Tryd.underlying32 rfl Tryd.infoInsS) rfl ⟨by rw [HI.out], ?_⟩
      exact below_setRow HB1.out.drew (by omega) (by show _ ≤ w1.heap.size; omega) _
end Go.Proofs.YtoacnphgkgklcaaDoor

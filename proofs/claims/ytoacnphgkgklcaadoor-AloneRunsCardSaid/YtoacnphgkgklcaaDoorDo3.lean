/-
  Chapter 11: contracts of vm.Do (all threads that fit), vm.Step, the reference's New. Conditions: program and thread lie in memory; the table isa.rows.
-/
import Derived.Test.YtoacnphgkgklcaaDoorDo2
namespace Go.Proofs.YtoacnphgkgklcaaDoor
open Go.RowKit
set_option maxHeartbeats 2000000 in
set_option maxRecDepth 100000 in
theorem do_done (t : Th) (A B : Option Addr) (c d : Nat) (n : Nat) (ans : Int) (w : World) (ht : ThOk w w.heap.size t B d) (hl : t.stack.length ≤ 1000) (hdn : t.done = true) (fs : List Fn) :
    Calls Tryd.prog 29 #[.agg #[.slice A n c], .agg (thArr t B d), .int .i64 ans] w (DoOut w (stepT fs t ans)) := by
  have HSTEP := Lib.hid (show stepT fs t ans = (t, 0, false) by unfold stepT; rw [if_pos hdn])
  have h11 := thArr_11 B d ht.regs
  rw [hdn] at h11
  have HT := Lib.hid ht
  have HSZ := Lib.hid (show (Tryd.prog.info? 28).map (·.size) = some (thArr t B d).size by rw [thArr_size B d ht.regs]; exact Tryd.infoTh)
  generalize hX : thArr t B d = X at *
  have HX := Lib.hid hX
  have hb0 := below3 w (.cells #[.slice A n c] 24) (.cells X 28) (.cells #[.int .i64 0, .int .i64 0, .int .i64 0, .int .i64 0, .int .i64 0, .int .i64 0, .int .i64 0, .int .i64 0, .int .i64 0, .int .i64 0, .slice none 0 0, .bool false] 28)
  have hW : ∃ W : World, Hid (W = ((w.alloc (.cells #[.slice A n c] 24)).alloc (.cells X 28)).alloc (.cells #[.int .i64 0, .int .i64 0, .int .i64 0, .int .i64 0, .int .i64 0, .int .i64 0, .int .i64 0, .int .i64 0, .int .i64 0, .int .i64 0, .slice none 0 0, .bool false] 28)) := ⟨_, rfl⟩
  obtain ⟨W, HW⟩ := hW
  have hBT : Blk W (w.heap.size + 1) 28 X := by rw [HW.out]; exact Blk.alloc (heap_alloc2_new w _ _) _
  have hBR : Blk W (w.heap.size + 2) 28 #[.int .i64 0, .int .i64 0, .int .i64 0, .int .i64 0, .int .i64 0, .int .i64 0, .int .i64 0, .int .i64 0, .int .i64 0, .int .i64 0, .slice none 0 0, .bool false] := by rw [HW.out]; exact blk3 w _ _ _ _
  rw [← HW.out] at hb0
  have HB0 := Lib.hid hb0
  have HBT := Lib.hid hBT
  have HBR := Lib.hid hBR
  clear hb0 hBT hBR ht hdn hX
  go_enter Tryd.func29, Tryd.ntmps29
  go_wp2_with (refine wpList_load_rowW (by rfl) 28 _ rfl (w.heap.size + 1) rfl 28 X (0, 0) _ (by rw [← HW.out]; exact HBT.out) Tryd.underlying28 rfl HSZ.out ?_)
  rw [← HW.out, ← HX.out]
  refine (vmClone_any t B d W hl (HT.out.step HB0.out)).mono ?_
  rintro e w3 ⟨A3, c3, rfl, hO3, hb3⟩
  have HR3 := Lib.hid (HBR.out.below hb3 HBR.out.lt)
  have HO3 := Lib.hid hO3
  have HB3 := Lib.hid (HB0.out.trans (hb3.mono HB0.out.size))
  have HSZ3 := Lib.hid (show (Tryd.prog.info? 28).map (·.size) = some (thArr t A3 c3).size by rw [thArr_size A3 c3 HT.out.regs]; exact Tryd.infoTh)
  have hz : w.heap.size + 2 < W.heap.size := HBR.out.lt
  clear hO3 hb3
  go_wp2_with (refine wpList_store_row rfl 28 _ _ rfl (w.heap.size + 2) (thArr t A3 c3) rfl rfl 28 _ HR3.out HSZ3.out (by rw [thArr_size A3 c3 HT.out.regs]; rfl) (thArr_one t A3 c3) ?_)
  refine bodyPost_ret (results_cell3 Tryd.results29 _ _ (w.heap.size + 2) 28 (thArr t A3 c3) (0, 0) _ rfl (HR3.out.setRow _) Tryd.underlying28 rfl HSZ3.out) rfl ⟨A3, c3, ?_, ?_, (fun k hk => Nat.le_trans HB0.out.size (HO3.out.lt k hk).1), ?_⟩
  · rw [HSTEP.out]; rfl
  · rw [HSTEP.out]
    have ho := own_setRow HO3.out (g := w.heap.size + 2) hz (thArr t A3 c3)
    refine ⟨HT.out.regs, by rw [setRow_size]; exact ho.rowN.more (by rw [setRow_size]; exact Nat.le_refl _), ?_, ?_⟩
    · rcases HO3.out.2 with ⟨_, h0⟩ | ⟨_, cap, _, hv, _, _, hnc, _⟩
      · simp only; omega
      · injection hv with _ _ h3
        simp only
        omega
    · rcases HO3.out.2 with ⟨hv, h0⟩ | ⟨_, cap, _, hv, _, _, _, hcm, _⟩
      · injection hv with _ _ h3
        rw [h3]
        unfold maxLen
        omega
      · injection hv with _ _ h3
        omega
  · exact below_setRow HB3.out (by omega) HB3.out.size _
theorem stack_le {fs : List Fn} {t : Th} (h : fitsT fs t = true) (hd : t.done = false) : t.stack.length ≤ 16 := by
  unfold fitsT fitsP at h
  rw [hd, Bool.false_or, Bool.and_eq_true, Bool.and_eq_true, Bool.and_eq_true, decide_eq_true_eq] at h
  exact h.2.2.1
theorem vmDo_any (t : Th) (A B : Option Addr) (c d : Nat) (fs : List Fn) (ans : Int) (w : World) (hT : Tab w) (hm0 : fs.length ≤ maxLen) (hf : FnsOk w w.heap.size A fs) (ht : ThOk w w.heap.size t B d) (hfit : fitsT fs t = true) (hl : t.stack.length ≤ 1000) :
    Calls Tryd.prog 29 #[.agg #[.slice A fs.length c], .agg (thArr t B d), .int .i64 ans] w (DoOut w (stepT fs t ans)) := by
  cases hdn : t.done with
  | true => exact do_done t A B c d _ ans w ht hl hdn fs
  | false => exact do_run t A B c d fs ans w hT hm0 hf ht hfit hdn
def zeroT : Th := ⟨0, 0, [0, 0, 0, 0, 0, 0, 0, 0], [], false⟩
/-- A step of any thread. -/
def stepS (fs : List Fn) (t : Th) (ans : Int) : Th × Int × Bool := if fitsT fs t = true then stepT fs t ans else (zeroT, 0, false)
set_option maxHeartbeats 2000000 in
set_option maxRecDepth 100000 in
theorem vmStep_any (t : Th) (A B : Option Addr) (c d : Nat) (fs : List Fn) (ans : Int) (w : World) (hT : Tab w) (hm0 : fs.length ≤ maxLen) (hf : FnsOk w w.heap.size A fs) (ht : ThOk w w.heap.size t B d) (hl : t.stack.length ≤ 1000) :
    Calls Tryd.prog 12 #[.agg #[.slice A fs.length c], .agg (thArr t B d), .int .i64 ans] w (DoOut w (stepS fs t ans)) := by
  have HM := Lib.hid hm0
  have HTA := Lib.hid hT
  have HF := Lib.hid hf
  have HT := Lib.hid ht
  have HSZ := Lib.hid (show (Tryd.prog.info? 28).map (·.size) = some (thArr t B d).size by rw [thArr_size B d ht.regs]; exact Tryd.infoTh)
  generalize hX : thArr t B d = X at *
  have HX := Lib.hid hX
  have hb0 := below3 w (.cells #[.slice A fs.length c] 24) (.cells X 28) (.cells #[.int .i64 0, .int .i64 0, .int .i64 0, .int .i64 0, .int .i64 0, .int .i64 0, .int .i64 0, .int .i64 0, .int .i64 0, .int .i64 0, .slice none 0 0, .bool false] 28)
  have hW : ∃ W : World, Hid (W = ((w.alloc (.cells #[.slice A fs.length c] 24)).alloc (.cells X 28)).alloc (.cells #[.int .i64 0, .int .i64 0, .int .i64 0, .int .i64 0, .int .i64 0, .int .i64 0, .int .i64 0, .int .i64 0, .int .i64 0, .int .i64 0, .slice none 0 0, .bool false] 28)) := ⟨_, rfl⟩
  obtain ⟨W, HW⟩ := hW
  have hBP : Blk W w.heap.size 24 #[.slice A fs.length c] := by rw [HW.out]; exact ((Blk.new w _ _).alloc _).alloc _
  have hBT : Blk W (w.heap.size + 1) 28 X := by rw [HW.out]; exact Blk.alloc (heap_alloc2_new w _ _) _
  have hBR : Blk W (w.heap.size + 2) 28 #[.int .i64 0, .int .i64 0, .int .i64 0, .int .i64 0, .int .i64 0, .int .i64 0, .int .i64 0, .int .i64 0, .int .i64 0, .int .i64 0, .slice none 0 0, .bool false] := by rw [HW.out]; exact blk3 w _ _ _ _
  rw [← HW.out] at hb0
  have HB0 := Lib.hid hb0
  have HBP := Lib.hid hBP
  have HBT := Lib.hid hBT
  have HBR := Lib.hid hBR
  have hz : w.heap.size + 2 < W.heap.size := hBR.lt
  clear hb0 hBP hBT hBR ht hX hT hm0 hf
  go_enter Tryd.func12, Tryd.ntmps12
  go_wp2_with (refine wpList_load_rowW (by rfl) 28 _ rfl (w.heap.size + 1) rfl 28 X (0, 0) _ (by rw [← HW.out]; exact HBT.out) Tryd.underlying28 rfl HSZ.out ?_)
  rw [← HW.out, ← HX.out]
  refine (vmFits_any t A B c d fs W (HTA.out.step HB0.out) HM.out (HF.out.step HB0.out) (HT.out.step HB0.out)).mono ?_
  rintro e w1 ⟨rfl, hb1⟩
  have HB1 := Lib.hid (HB0.out.trans (hb1.mono HB0.out.size))
  have hBP := HBP.out.below hb1 HBP.out.lt
  have HBT1 := Lib.hid (HBT.out.below hb1 HBT.out.lt)
  have HBR1 := Lib.hid (HBR.out.below hb1 HBR.out.lt)
  have hz1 : w.heap.size + 2 < w1.heap.size := HBR1.out.lt
  have kp := hBP.cell 0
  simp only [List.getElem?_toArray, List.getElem?_cons_zero] at kp
  clear hb1 hBP
  cases hfit : fitsT fs t with
  | false =>
    have HSTEP := Lib.hid (show stepS fs t ans = (zeroT, 0, false) by unfold stepS; rw [hfit]; rfl)
    have HSZD := Lib.hid (show (Tryd.prog.info? 28).map (·.size) = some (thArr zeroT none 0).size from Tryd.infoTh)
    clear hfit
    go_wp2_with (refine wpList_store_row rfl 28 _ _ rfl (w.heap.size + 2) (thArr zeroT none 0) rfl rfl 28 _ HBR1.out HSZD.out rfl (thArr_one zeroT none 0) ?_)
    refine bodyPost_ret (results_cell3 Tryd.results12 _ _ (w.heap.size + 2) 28 (thArr zeroT none 0) (0, 0) _ rfl (HBR1.out.setRow _) Tryd.underlying28 rfl HSZD.out) rfl ⟨none, 0, ?_, ?_, (fun _ h => by cases h), ?_⟩
    · rw [HSTEP.out]; rfl
    · rw [HSTEP.out]; exact ⟨rfl, Row.nil, Nat.le_refl _, Nat.zero_le _⟩
    · exact below_setRow HB1.out (by omega) HB1.out.size _
  | true =>
    have HSTEP := Lib.hid (show stepS fs t ans = stepT fs t ans by unfold stepS; rw [if_pos hfit])
    have HFIT := Lib.hid hfit
    clear hfit
    go_wp2_with (refine wpList_load_rowW (by rfl) 28 _ rfl (w.heap.size + 1) rfl 28 X (0, 0) _ HBT1.out Tryd.underlying28 rfl HSZ.out ?_)
    rw [← HX.out]
    refine (vmDo_any t A B c d fs ans w1 (HTA.out.step HB1.out) HM.out (HF.out.step HB1.out) (HT.out.step HB1.out) HFIT.out hl).mono ?_
    rintro e w2 ⟨B2, d2, rfl, hok, hfr, hb2⟩
    rw [← HSTEP.out]
    rw [← HSTEP.out] at hok
    generalize stepS fs t ans = r at *
    obtain ⟨u, n, q⟩ := r
    have HOK := Lib.hid hok
    have HFR := Lib.hid hfr
    have HBR2 := Lib.hid (HBR1.out.below hb2 HBR1.out.lt)
    have HB2 := Lib.hid (HB1.out.trans (hb2.mono HB1.out.size))
    have hz2 : w1.heap.size ≤ w2.heap.size := hb2.size
    have HSZ2 := Lib.hid (show (Tryd.prog.info? 28).map (·.size) = some (thArr u B2 d2).size by rw [thArr_size B2 d2 hok.regs]; exact Tryd.infoTh)
    clear hb2 hok HSTEP hfr
    go_wp2_with (refine wpList_store_row rfl 28 _ _ rfl (w.heap.size + 2) (thArr u B2 d2) rfl rfl 28 _ HBR2.out HSZ2.out (by rw [thArr_size B2 d2 HOK.out.regs]; rfl) (thArr_one u B2 d2) ?_)
    refine bodyPost_ret (results_cell3 Tryd.results12 _ _ (w.heap.size + 2) 28 (thArr u B2 d2) (0, 0) _ rfl (HBR2.out.setRow _) Tryd.underlying28 rfl HSZ2.out) rfl ⟨B2, d2, ?_, ?_, ?_, ?_⟩
    · rfl
    · refine ⟨HOK.out.regs, ?_, HOK.out.len, HOK.out.cap⟩
      rw [setRow_size]
      rcases HOK.out.row with h | ⟨b, off, e, hb, hc⟩
      · exact .inl h
      · have hbz := HFR.out b (by rw [e]; rfl)
        refine .inr ⟨b, off, e, hb, fun j v hv => ?_⟩
        rw [← hc j v hv]
        unfold World.cell?
        rw [heap_setRow _ _ _ b (by omega)]
    · intro k hk
      have := HFR.out k hk
      omega
    · exact below_setRow HB2.out (by omega) HB2.out.size _
set_option maxHeartbeats 2000000 in
set_option maxRecDepth 100000 in
theorem rNew_any (fn arg : Int) (w : World) : Calls Tryd.prog 18 #[.int .i64 fn, .int .i64 arg] w fun e w' => e = .returned (.agg (thArr ⟨fn, 0, [arg, 0, 0, 0, 0, 0, 0, 0], [], false⟩ none 0)) ∧ Below w.heap.size w w' := by
  go_enter Tryd.func18, Tryd.ntmps18
  go_wp2_with fail
  exact bodyPost_ret (v := .agg (thArr ⟨fn, 0, [arg, 0, 0, 0, 0, 0, 0, 0], [], false⟩ none 0)) (by simp [results, Tryd.results18, go_sem, thArr]) rfl ⟨rfl, below2 w _ _⟩
end Go.Proofs.YtoacnphgkgklcaaDoor

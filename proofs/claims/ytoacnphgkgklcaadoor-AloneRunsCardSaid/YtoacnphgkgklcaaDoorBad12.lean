/-
  Chapter 12: a run of one goroutine, whatever is handed in: contracts of alone.Run, alone.Emits and of the law's own 'alive'. Conditions: the program lies in memory; the table isa.rows.
-/
import Derived.Test.YtoacnphgkgklcaaDoorRun12
namespace Go.Proofs.YtoacnphgkgklcaaDoor
open Go.RowKit
theorem res0 : resArr wd0 none 0 none 0 = #[.slice none 0 0, .int .i64 0, .int .i64 0, .int .i64 0, .int .i64 0, .int .i64 0, .int .i64 0, .int .i64 0, .int .i64 0, .int .i64 0, .int .i64 0, .int .i64 0, .slice none 0 0, .bool false, .bool false] := rfl
theorem resOut_bad {w w' : World} (hb : Below w.heap.size w w') : ResOut w wd0 1 (.returned (.tuple #[.agg (resArr wd0 none 0 none 0), .int .i64 1])) w' :=
  ⟨none, 0, none, 0, rfl, Row.nil, Nat.le_refl _, Nat.zero_le _, ⟨rfl, Row.nil, Nat.le_refl _, Nat.zero_le _⟩, hb⟩
set_option maxHeartbeats 2000000 in
set_option maxRecDepth 100000 in
theorem run_bad (A : Option Addr) (c : Nat) (fs : List Fn) (x : Int) (w : World) (hT : Tab w) (hm : fs.length ≤ maxLen) (hf : FnsOk w w.heap.size A fs) (hbad : ¬ (runB fs = true ∧ 0 ≤ x ∧ x ≤ 65536)) :
    Calls Tryd.prog 23 #[.agg #[.slice A fs.length c], .int .i64 x] w (ResOut w wd0 1) := by
  have HTA := Lib.hid hT
  have HF := Lib.hid hf
  have HM := Lib.hid hm
  have HBAD := Lib.hid (show (checkP fs).2.2 = 0 → 0 ≤ x → x ≤ 65536 → False from fun h1 h2 h3 => hbad ⟨by unfold runB; rw [h1]; rfl, h2, h3⟩)
  have hW : ∃ W : World, Hid (W = (w.alloc (.cells #[.slice A fs.length c] 24)).alloc (.cells #[.slice none 0 0, .int .i64 0, .int .i64 0, .int .i64 0, .int .i64 0, .int .i64 0, .int .i64 0, .int .i64 0, .int .i64 0, .int .i64 0, .int .i64 0, .int .i64 0, .slice none 0 0, .bool false, .bool false] 46)) := ⟨_, rfl⟩
  obtain ⟨W, HW⟩ := hW
  have HB0 := Lib.hid (show Below w.heap.size w W by rw [HW.out]; exact below2 w _ _)
  have HBR := Lib.hid (show Blk W (w.heap.size + 1) 46 #[.slice none 0 0, .int .i64 0, .int .i64 0, .int .i64 0, .int .i64 0, .int .i64 0, .int .i64 0, .int .i64 0, .int .i64 0, .int .i64 0, .int .i64 0, .int .i64 0, .slice none 0 0, .bool false, .bool false] by rw [HW.out]; exact heap_alloc2_new w _ _)
  clear hT hf hm hbad
  go_enter Tryd.func23, Tryd.ntmps23
  go_wp2_with fail
  try go_step3
  go_wp2_with fail
  rw [← HW.out]
  refine (checkP_any A c fs W (HTA.out.step HB0.out) HM.out (HF.out.step HB0.out)).mono ?_
  rintro e w1 ⟨rfl, hb1⟩
  have HB1 := Lib.hid (HB0.out.trans (hb1.mono HB0.out.size))
  have HBR1 := Lib.hid (HBR.out.below hb1 HBR.out.lt)
  unfold tri
  generalize checkP fs = r at *
  obtain ⟨r1, r2, r3⟩ := r
  clear hb1
  have HSZD := Lib.hid (show (Tryd.prog.info? 46).map (·.size) = some (resArr wd0 none 0 none 0).size from Tryd.infoRes)
  have hfin : ∀ w2, w2 = w1.setRow (w.heap.size + 1) (resArr wd0 none 0 none 0) → Below w.heap.size w w2 := fun w2 h => by rw [h]; exact below_setRow HB1.out (by omega) HB1.out.size _
  have HFIN := Lib.hid hfin
  clear hfin
  have three : (r3 != 0) = true ∨ (r3 = 0 ∧ x < 0) ∨ (r3 = 0 ∧ 0 ≤ x ∧ 65536 < x) := by
    have := HBAD.out
    simp only at this
    by_cases h3 : r3 = 0
    · right
      by_cases h0 : x < 0
      · exact .inl ⟨h3, h0⟩
      · refine .inr ⟨h3, by omega, ?_⟩
        by_cases h5 : x ≤ 65536
        · exact (this h3 (by omega) h5).elim
        · omega
    · left; simpa using h3
  rcases three with h3 | ⟨rfl, h0⟩ | ⟨rfl, h0, h5⟩
  · go_wp2_with (refine wpList_store_row rfl 46 _ _ rfl (w.heap.size + 1) (resArr wd0 none 0 none 0) rfl rfl 46 _ HBR1.out HSZD.out rfl (resArr_one (d := wd0) none 0 none 0) ?_)
    rw [Exit.noGoto_ret]
    refine bodyPost_ret (results_cell2 Tryd.results23 _ _ (w.heap.size + 1) 46 (resArr wd0 none 0 none 0) (0, 0) _ rfl (HBR1.out.setRow _) Tryd.underlying46 rfl HSZD.out) rfl ?_
    exact resOut_bad (HFIN.out _ rfl)
  · have e0 : decide (x < 0) = true := by simpa using h0
    clear h0
    go_wp2_with (refine wpList_store_row rfl 46 _ _ rfl (w.heap.size + 1) (resArr wd0 none 0 none 0) rfl rfl 46 _ HBR1.out HSZD.out rfl (resArr_one (d := wd0) none 0 none 0) ?_)
    rw [Exit.noGoto_ret]
    refine bodyPost_ret (results_cell2 Tryd.results23 _ _ (w.heap.size + 1) 46 (resArr wd0 none 0 none 0) (0, 0) _ rfl (HBR1.out.setRow _) Tryd.underlying46 rfl HSZD.out) rfl ?_
    exact resOut_bad (HFIN.out _ rfl)
  · have e0 : decide (x < 0) = false := by simpa using h0
    have e5 : decide (65536 < x) = true := by simpa using h5
    clear h0 h5
    go_wp2_with (refine wpList_store_row rfl 46 _ _ rfl (w.heap.size + 1) (resArr wd0 none 0 none 0) rfl rfl 46 _ HBR1.out HSZD.out rfl (resArr_one (d := wd0) none 0 none 0) ?_)
    rw [Exit.noGoto_ret]
    refine bodyPost_ret (results_cell2 Tryd.results23 _ _ (w.heap.size + 1) 46 (resArr wd0 none 0 none 0) (0, 0) _ rfl (HBR1.out.setRow _) Tryd.underlying46 rfl HSZD.out) rfl ?_
    exact resOut_bad (HFIN.out _ rfl)
/-- What a run comes to. -/
def runR (fs : List Fn) (x : Int) : Wd × Int := if runB fs = true ∧ 0 ≤ x ∧ x ≤ 65536 then (runA fs x.toNat wd0, 0) else (wd0, 1)
theorem run_any (A : Option Addr) (c : Nat) (fs : List Fn) (x : Int) (w : World) (hT : Tab w) (hm : fs.length ≤ maxLen) (hf : FnsOk w w.heap.size A fs) :
    Calls Tryd.prog 23 #[.agg #[.slice A fs.length c], .int .i64 x] w (ResOut w (runR fs x).1 (runR fs x).2) := by
  unfold runR
  by_cases h : runB fs = true ∧ 0 ≤ x ∧ x ≤ 65536
  · rw [if_pos h]
    obtain ⟨n, rfl⟩ := Int.eq_ofNat_of_zero_le h.2.1
    exact run_loop A c fs n w hT hm hf h.1 (by omega)
  · rw [if_neg h]
    exact run_bad A c fs x w hT hm hf h
theorem resArr_0 (d : Wd) (E : Option Addr) (ce : Nat) (B : Option Addr) (cb : Nat) : (resArr d E ce B cb)[0]? = some (.slice E d.emits.length ce) := by simp [resArr]
theorem resArr_1 (d : Wd) (E : Option Addr) (ce : Nat) (B : Option Addr) (cb : Nat) : (resArr d E ce B cb)[1]? = some (.int .i64 d.steps) := by simp [resArr]
theorem resArr_th {d : Wd} (E : Option Addr) (ce : Nat) (B : Option Addr) (cb : Nat) (h : d.th.regs.length = 8) (j : Nat) (hj : j < 12) : (resArr d E ce B cb)[2 + j]? = (thArr d.th B cb)[j]? := by
  have hs := thArr_size B cb h
  unfold resArr
  rw [List.getElem?_toArray, List.getElem?_append_left (by simp [hs]; omega), List.getElem?_append_right (by simp)]
  simp
theorem resArr_14 {d : Wd} (E : Option Addr) (ce : Nat) (B : Option Addr) (cb : Nat) (h : d.th.regs.length = 8) : (resArr d E ce B cb)[14]? = some (.bool d.stuck) := by
  have hs := thArr_size B cb h
  unfold resArr
  rw [List.getElem?_toArray, List.getElem?_append_right (by simp [hs])]
  simp [hs]
set_option maxHeartbeats 2000000 in
set_option maxRecDepth 100000 in
theorem emits_any (A : Option Addr) (c : Nat) (fs : List Fn) (x : Int) (w : World) (hT : Tab w) (hm : fs.length ≤ maxLen) (hf : FnsOk w w.heap.size A fs) :
    Calls Tryd.prog 26 #[.agg #[.slice A fs.length c], .int .i64 x] w fun e w' => ∃ E ce, e = .returned (.slice E (runR fs x).1.emits.length ce) ∧ Row w' w'.heap.size E (ints (runR fs x).1.emits) ∧ (runR fs x).1.emits.length ≤ ce ∧ ce ≤ maxLen ∧ Below w.heap.size w w' := by
  have HTA := Lib.hid hT
  have HF := Lib.hid hf
  have HM := Lib.hid hm
  have HB0 := Lib.hid ((Below.refl w.heap.size w).alloc (Nat.le_refl _) (.cells #[.slice A fs.length c] 24))
  clear hT hf hm
  go_enter Tryd.func26, Tryd.ntmps26
  go_wp2_with fail
  refine (run_any A c fs x _ (HTA.out.step HB0.out) HM.out (HF.out.step HB0.out)).mono ?_
  rintro e w1 ⟨E, ce, B, cb, rfl, hr, h1, h2, hk, hb⟩
  have HB1 := Lib.hid (HB0.out.trans (hb.mono HB0.out.size))
  generalize hrr : runR fs x = r at *
  obtain ⟨d, f⟩ := r
  have HRR := Lib.hid hrr
  clear hrr
  simp only at hr h1 h2 hk ⊢
  have HR := Lib.hid hr
  have H1 := Lib.hid h1
  have H2 := Lib.hid h2
  have HSZ := Lib.hid (show (Tryd.prog.info? 46).map (·.size) = some (resArr d E ce B cb).size by rw [resArr_size E ce B cb hk.regs]; exact Tryd.infoRes)
  have HSX := Lib.hid (resArr_size E ce B cb hk.regs)
  have HONE := Lib.hid (resArr_one (d := d) E ce B cb)
  have H0 := Lib.hid (resArr_0 d E ce B cb)
  clear hr h1 h2 hk hb
  generalize resArr d E ce B cb = X at *
  have hW : ∃ W : World, Hid (W = (w1.alloc (.cells #[.slice none 0 0, .int .i64 0, .int .i64 0, .int .i64 0, .int .i64 0, .int .i64 0, .int .i64 0, .int .i64 0, .int .i64 0, .int .i64 0, .int .i64 0, .int .i64 0, .slice none 0 0, .bool false, .bool false] 46)).setRow w1.heap.size X) := ⟨_, rfl⟩
  obtain ⟨W, HW⟩ := hW
  have hBX : Blk W w1.heap.size 46 X := by rw [HW.out]; exact (Blk.new w1 _ _).setRow _
  have HBW := Lib.hid (show Below w1.heap.size w1 W by rw [HW.out]; exact below_setRow ((Below.refl _ _).alloc (Nat.le_refl _) _) (Nat.le_refl _) (by simp) _)
  have q0 := (hBX.cell 0).trans H0.out
  have hlt : w1.heap.size < W.heap.size := hBX.lt
  clear hBX
  go_wp2_with (refine wpList_store_row rfl 46 _ _ rfl w1.heap.size X rfl rfl 46 _ (Blk.new w1 _ _) HSZ.out (by rw [HSX.out]; rfl) HONE.out ?_; rw [← HW.out])
  go_ret
  rw [HRR.out]
  exact ⟨E, ce, rfl, (HR.out.below HBW.out).more HBW.out.size, H1.out, H2.out, HB1.out.trans (HBW.out.mono HB1.out.size)⟩
def code4 : List Ins := [⟨15, 0, 0, 0, 0⟩, ⟨12, 0, 0, 0, 0⟩, ⟨15, 0, 0, 0, 0⟩, ⟨14, 0, 0, 0, 0⟩]
def prog4 : List Fn := [⟨code4, [false, true, true, false]⟩]
theorem run4 : (runR prog4 9).1.emits.length = 1 ∧ (runR prog4 9).1.steps = 2 ∧ (runR prog4 9).1.stuck = true ∧ (runR prog4 9).2 = 0 := by
  refine ⟨?_, ?_, ?_, ?_⟩ <;> kernel_rfl
theorem fn4_ok {w : World} {B g1 g2 : Nat} (h1 : Blk w g1 32 #[.int .i64 15, .int .i64 0, .int .i64 0, .int .i64 0, .int .i64 0, .int .i64 12, .int .i64 0, .int .i64 0, .int .i64 0, .int .i64 0, .int .i64 15, .int .i64 0, .int .i64 0, .int .i64 0, .int .i64 0, .int .i64 14, .int .i64 0, .int .i64 0, .int .i64 0, .int .i64 0]) (h2 : Blk w g2 4 #[.bool false, .bool true, .bool true, .bool false]) (b1 : g1 < B) (b2 : g2 < B) :
    FnOk w B ⟨some ⟨g1, 0, none⟩, 4, 4, some ⟨g2, 0, none⟩, 4, 4⟩ ⟨code4, [false, true, true, false]⟩ :=
  ⟨rfl, rfl, row_of_blk h1 b1, row_of_blk h2 b2, by simp [maxLen], by simp [maxLen], by
    intro i hi
    simp only [code4, List.mem_cons, List.not_mem_nil, or_false] at hi
    rcases hi with rfl | rfl | rfl | rfl <;> simp [InsOk, I64]⟩
set_option maxHeartbeats 2000000 in
set_option maxRecDepth 100000 in
theorem alive12 (w : World) (hT : Tab w) : Calls Tryd.prog 22 #[] w fun e w' => e = .returned (.bool true) ∧ Below w.heap.size w w' := by
  have HT := Lib.hid hT
  clear hT
  go_enter Tryd.func22, Tryd.ntmps22
  go_wp2_with fail
  generalize hW : (((w.alloc _).alloc _).alloc _).alloc _ = W
  obtain ⟨b1, b2, b3, b4, hz, hB⟩ := blk4 w _ _ _ _ _ _ _ _ W hW.symm
  clear hW
  have hfn := fn4_ok (B := W.heap.size) b1 b2 (by omega) (by omega)
  have HFS := Lib.hid (aliveFns_ok hfn b3 (by omega))
  have HT2 := Lib.hid (HT.out.step hB)
  have HB := Lib.hid hB
  clear b1 b2 b3 b4 hB hfn hz
  refine (run_any (some ⟨w.heap.size + 1 + 1, 0, none⟩) 1 prog4 9 W HT2.out (by simp [prog4, maxLen]) HFS.out).mono ?_
  rintro e w1 ⟨E, ce, B, cb, rfl, _, _, _, hk, hb⟩
  have HB1 := Lib.hid (HB.out.trans (hb.mono HB.out.size))
  obtain ⟨r1, r2, r3, r4⟩ := run4
  rw [r4]
  have HSZ := Lib.hid (show (Tryd.prog.info? 46).map (·.size) = some (resArr (runR prog4 9).1 E ce B cb).size by rw [resArr_size E ce B cb hk.regs]; exact Tryd.infoRes)
  have HSX := Lib.hid (resArr_size E ce B cb hk.regs)
  have HONE := Lib.hid (resArr_one (d := (runR prog4 9).1) E ce B cb)
  have h0 := resArr_0 (runR prog4 9).1 E ce B cb
  have h1 := resArr_1 (runR prog4 9).1 E ce B cb
  have h14 := resArr_14 E ce B cb hk.regs
  rw [r1] at h0
  rw [r2] at h1
  rw [r3] at h14
  clear hk hb r1 r2 r3 r4
  generalize resArr (runR prog4 9).1 E ce B cb = X at *
  have hW : ∃ W2 : World, Hid (W2 = (w1.alloc (.cells #[.slice none 0 0, .int .i64 0, .int .i64 0, .int .i64 0, .int .i64 0, .int .i64 0, .int .i64 0, .int .i64 0, .int .i64 0, .int .i64 0, .int .i64 0, .int .i64 0, .slice none 0 0, .bool false, .bool false] 46)).setRow w1.heap.size X) := ⟨_, rfl⟩
  obtain ⟨W2, HW⟩ := hW
  have hBX : Blk W2 w1.heap.size 46 X := by rw [HW.out]; exact (Blk.new w1 _ _).setRow _
  have HBW := Lib.hid (show Below w1.heap.size w1 W2 by rw [HW.out]; exact below_setRow ((Below.refl _ _).alloc (Nat.le_refl _) _) (Nat.le_refl _) (by simp) _)
  have q0 := (hBX.cell 0).trans h0
  have q1 := (hBX.cell 1).trans h1
  have q14 := (hBX.cell 14).trans h14
  clear hBX h0 h1 h14
  go_wp2_with (refine wpList_store_row rfl 46 _ _ rfl w1.heap.size X rfl rfl 46 _ (Blk.new w1 _ _) HSZ.out (by rw [HSX.out]; rfl) HONE.out ?_; rw [← HW.out])
  go_ret
  exact ⟨rfl, HB1.out.trans (HBW.out.mono HB1.out.size)⟩
end Go.Proofs.YtoacnphgkgklcaaDoor

/-
  The laws of chapter 6 as contracts. Condition: the table is laid.
-/
import Derived.Test.YthhmnipggienaaaDoorRef06b
namespace Go.Proofs.YthhmnipggienaaaDoor
open Go.RowKit
set_option maxHeartbeats 2000000 in
theorem alive06 (w : World) (hT : Tab w) : Calls Tryd.prog 17 #[] w fun e w' => e = .returned (.bool true) ∧ Below w.heap.size w w' := by
  have e1 : opAt ⟨#[106, 117, 109, 112]⟩ = 6 := by decide +kernel
  have e2 : opIs ⟨#[106, 117, 109, 112]⟩ = true := by decide +kernel
  have e3 : opName 23 = ⟨#[115, 101, 108, 102]⟩ := by kernel_rfl
  have e4 : checkF 6 0 0 0 3 3 1 = 2 := by decide +kernel
  have e5 : checkF 6 0 0 0 2 3 1 = 0 := by decide +kernel
  have H0 := Lib.hid hT
  clear hT
  go_enter Tryd.func17, Tryd.ntmps17
  go_wp2_with fail
  refine (isaOp_any _ _ H0.out).mono ?_
  rintro e w1 ⟨rfl, hb1⟩
  have H1 := Lib.hid (H0.out.step hb1)
  go_wp2_with fail
  refine (isaName_any _ _ H1.out).mono ?_
  rintro e w2 ⟨rfl, hb2⟩
  have H2 := Lib.hid (H1.out.step hb2)
  go_wp2_with fail
  refine (check_any _ _ _ _ _ _ _ _ H2.out).mono ?_
  rintro e w3 ⟨rfl, hb3⟩
  have H3 := Lib.hid (H2.out.step hb3)
  go_wp2_with fail
  refine (check_any _ _ _ _ _ _ _ _ H3.out).mono ?_
  rintro e w4 ⟨rfl, hb4⟩
  go_wp2_with fail
  go_ret
  have h12 := hb1.trans (hb2.mono hb1.size)
  have h13 := h12.trans (hb3.mono h12.size)
  exact ⟨rfl, h13.trans (hb4.mono h13.size)⟩
set_option maxHeartbeats 2000000 in
theorem checks_law (op a b c n places funcs : Int) (w : World) (hT : Tab w) :
    Calls Tryd.prog 3 #[.agg #[.int .i64 op, .int .i64 a, .int .i64 b, .int .i64 c, .int .i64 n], .int .i64 places, .int .i64 funcs] w fun e w' => e = .returned (.bool true) ∧ Below w.heap.size w w' := by
  have H0 := Lib.hid (hT.alloc (.cells #[.int .i64 op, .int .i64 a, .int .i64 b, .int .i64 c, .int .i64 n] 23))
  have hB : Below w.heap.size w (w.alloc (.cells #[.int .i64 op, .int .i64 a, .int .i64 b, .int .i64 c, .int .i64 n] 23)) := (Below.refl _ _).alloc (Nat.le_refl _) _
  clear hT
  go_enter Tryd.func3, Tryd.ntmps3
  go_wp2_with fail
  have t0 : ∀ w', Below (w.heap.size + 1) (w.alloc (.cells #[.int .i64 op, .int .i64 a, .int .i64 b, .int .i64 c, .int .i64 n] 23)) w' → w'.cell? ⟨w.heap.size, 0, none⟩ = some (.int .i64 op) := fun w' h => (h.cell (p := ⟨w.heap.size, 0, none⟩) (by simp)).trans (by simp [go_sem])
  have t1 : ∀ w', Below (w.heap.size + 1) (w.alloc (.cells #[.int .i64 op, .int .i64 a, .int .i64 b, .int .i64 c, .int .i64 n] 23)) w' → w'.cell? ⟨w.heap.size, 1, none⟩ = some (.int .i64 a) := fun w' h => (h.cell (p := ⟨w.heap.size, 1, none⟩) (by simp)).trans (by simp [go_sem])
  have t2 : ∀ w', Below (w.heap.size + 1) (w.alloc (.cells #[.int .i64 op, .int .i64 a, .int .i64 b, .int .i64 c, .int .i64 n] 23)) w' → w'.cell? ⟨w.heap.size, 2, none⟩ = some (.int .i64 b) := fun w' h => (h.cell (p := ⟨w.heap.size, 2, none⟩) (by simp)).trans (by simp [go_sem])
  have t3 : ∀ w', Below (w.heap.size + 1) (w.alloc (.cells #[.int .i64 op, .int .i64 a, .int .i64 b, .int .i64 c, .int .i64 n] 23)) w' → w'.cell? ⟨w.heap.size, 3, none⟩ = some (.int .i64 c) := fun w' h => (h.cell (p := ⟨w.heap.size, 3, none⟩) (by simp)).trans (by simp [go_sem])
  have t4 : ∀ w', Below (w.heap.size + 1) (w.alloc (.cells #[.int .i64 op, .int .i64 a, .int .i64 b, .int .i64 c, .int .i64 n] 23)) w' → w'.cell? ⟨w.heap.size, 4, none⟩ = some (.int .i64 n) := fun w' h => (h.cell (p := ⟨w.heap.size, 4, none⟩) (by simp)).trans (by simp [go_sem])
  have hz : w.heap.size + 1 ≤ (w.alloc (.cells #[.int .i64 op, .int .i64 a, .int .i64 b, .int .i64 c, .int .i64 n] 23)).heap.size := by simp
  refine region_below (w.alloc (.cells #[.int .i64 op, .int .i64 a, .int .i64 b, .int .i64 c, .int .i64 n] 23)) (w.heap.size + 1) (by kernel_rfl) (by kernel_rfl) (Below.refl _ _) ?_
  repeat (first | go_big_quiet_skip | (go_big_quiet_want; first | (go_big_quiet_op; first | go_big_quiet_on | ((first | with_reducible refine ⟨_, fun _ _ => rfl, ?_⟩ | with_reducible refine ⟨_, fun w' hw' => calm_of hw' hz (check_any _ _ _ _ _ _ _ _ (H0.out.keep hw' (by omega))), ?_⟩ | with_reducible refine ⟨_, fun w' hw' => calm_of hw' hz (rcheck_any _ _ _ _ _ _ _ _), ?_⟩ | with_reducible refine ⟨_, fun w' hw' => calm_of hw' hz (alive06 _ (H0.out.keep hw' (by omega))), ?_⟩); go_big_quiet_on)) | (simp (contextual := true) [go_sem, t0, t1, t2, t3, t4]; with_reducible refine ⟨_, fun _ _ => rfl, ?_⟩; go_big_quiet_on)))
  refine wpQuiet_nil ?_
  intro w2 hw2
  go_wp2
  go_ret
  exact ⟨rfl, hB.trans (hw2.mono (by omega))⟩
theorem looks_num (op : Int) : (opNumber op == (op == 1)) = true := by
  by_cases h : op < 0 ∨ 24 ≤ op
  · have : opNumber op = false := by simp [opNumber, opRow_out op h, noRow]
    rw [this, out_facts op h 1 (by omega) (by omega)]; rfl
  · rcases op24 op h with rfl | rfl | rfl | rfl | rfl | rfl | rfl | rfl | rfl | rfl | rfl | rfl | rfl | rfl | rfl | rfl | rfl | rfl | rfl | rfl | rfl | rfl | rfl | rfl <;> decide
set_option maxHeartbeats 2000000 in
theorem looks_law (op : Int) (w : World) (hT : Tab w) :
    Calls Tryd.prog 6 #[.int .i64 op] w fun e w' => e = .returned (.bool true) ∧ Below w.heap.size w w' := by
  have HT := Lib.hid hT
  have HB := Lib.hid (Below.refl w.heap.size w)
  have hnum := looks_num op
  clear hT
  by_cases hop : isOpB op = true
  · have h : ¬ (op < 0 ∨ 24 ≤ op) := by simp [isOpB] at hop; omega
    have HO := Lib.hid h
    clear h
    go_enter Tryd.func6, Tryd.ntmps6
    go_wp2_with (first | (go_at_call 20; refine (ris_any _ _).mono ?_; rintro e w1 ⟨rfl, hb1⟩; have HT := Lib.hid (HT.out.step hb1); have HB := Lib.hid (HB.out.trans (hb1.mono HB.out.size)); clear hb1) | (go_at_call 23; refine (isaRegs_any _ _ HT.out).mono ?_; rintro e w1 ⟨rfl, hb1⟩; have HT := Lib.hid (HT.out.step hb1); have HB := Lib.hid (HB.out.trans (hb1.mono HB.out.size)); clear hb1) | (go_at_call 24; refine (rregs_any _ _).mono ?_; rintro e w1 ⟨rfl, rfl⟩) | (go_at_call 25; refine (isaTarget_any _ _ HT.out).mono ?_; rintro e w1 ⟨rfl, hb1⟩; have HT := Lib.hid (HT.out.step hb1); have HB := Lib.hid (HB.out.trans (hb1.mono HB.out.size)); clear hb1) | (go_at_call 26; refine (rtarget_any _ _).mono ?_; rintro e w1 ⟨rfl, rfl⟩) | (go_at_call 27; refine (isaNumber_any _ _ HT.out).mono ?_; rintro e w1 ⟨rfl, hb1⟩; have HT := Lib.hid (HT.out.step hb1); have HB := Lib.hid (HB.out.trans (hb1.mono HB.out.size)); clear hb1) | (go_at_call 28; refine (isaWaits_any _ _ HT.out).mono ?_; rintro e w1 ⟨rfl, hb1⟩; have HT := Lib.hid (HT.out.step hb1); have HB := Lib.hid (HB.out.trans (hb1.mono HB.out.size)); clear hb1) | (go_at_call 29; refine (rwaits_any _ _).mono ?_; rintro e w1 ⟨rfl, rfl⟩) | (go_at_call 30; refine (isaEnds_any _ _ HT.out).mono ?_; rintro e w1 ⟨rfl, hb1⟩; have HT := Lib.hid (HT.out.step hb1); have HB := Lib.hid (HB.out.trans (hb1.mono HB.out.size)); clear hb1) | (go_at_call 31; refine (rends_any _ _).mono ?_; rintro e w1 ⟨rfl, rfl⟩) | (go_at_call 32; refine (isaAsks_any _ _ HT.out).mono ?_; rintro e w1 ⟨rfl, hb1⟩; have HT := Lib.hid (HT.out.step hb1); have HB := Lib.hid (HB.out.trans (hb1.mono HB.out.size)); clear hb1) | (go_at_call 33; refine (rasks_in _ _ HO.out).mono ?_; rintro e w1 ⟨rfl, rfl⟩) | (go_at_call 17; refine (alive06 _ HT.out).mono ?_; rintro e w1 ⟨rfl, hb1⟩; have HT := Lib.hid (HT.out.step hb1); have HB := Lib.hid (HB.out.trans (hb1.mono HB.out.size)); clear hb1))
    go_ret
    exact ⟨rfl, HB.out⟩
  · have hop : isOpB op = false := by simpa using hop
    have h : op < 0 ∨ 24 ≤ op := by simp [isOpB] at hop; omega
    have e1 : opWaits op = false := by simp [opWaits, opRow_out op h, noRow]
    have e2 : opEnds op = false := by simp [opEnds, opRow_out op h, noRow]
    have e3 : opAsks op = false := by simp [opAsks, opRow_out op h, noRow]
    clear h
    go_enter Tryd.func6, Tryd.ntmps6
    go_wp2_with (first | (go_at_call 20; refine (ris_any _ _).mono ?_; rintro e w1 ⟨rfl, hb1⟩; have HT := Lib.hid (HT.out.step hb1); have HB := Lib.hid (HB.out.trans (hb1.mono HB.out.size)); clear hb1) | (go_at_call 23; refine (isaRegs_any _ _ HT.out).mono ?_; rintro e w1 ⟨rfl, hb1⟩; have HT := Lib.hid (HT.out.step hb1); have HB := Lib.hid (HB.out.trans (hb1.mono HB.out.size)); clear hb1) | (go_at_call 24; refine (rregs_any _ _).mono ?_; rintro e w1 ⟨rfl, rfl⟩) | (go_at_call 25; refine (isaTarget_any _ _ HT.out).mono ?_; rintro e w1 ⟨rfl, hb1⟩; have HT := Lib.hid (HT.out.step hb1); have HB := Lib.hid (HB.out.trans (hb1.mono HB.out.size)); clear hb1) | (go_at_call 26; refine (rtarget_any _ _).mono ?_; rintro e w1 ⟨rfl, rfl⟩) | (go_at_call 27; refine (isaNumber_any _ _ HT.out).mono ?_; rintro e w1 ⟨rfl, hb1⟩; have HT := Lib.hid (HT.out.step hb1); have HB := Lib.hid (HB.out.trans (hb1.mono HB.out.size)); clear hb1) | (go_at_call 28; refine (isaWaits_any _ _ HT.out).mono ?_; rintro e w1 ⟨rfl, hb1⟩; have HT := Lib.hid (HT.out.step hb1); have HB := Lib.hid (HB.out.trans (hb1.mono HB.out.size)); clear hb1) | (go_at_call 29; refine (rwaits_any _ _).mono ?_; rintro e w1 ⟨rfl, rfl⟩) | (go_at_call 30; refine (isaEnds_any _ _ HT.out).mono ?_; rintro e w1 ⟨rfl, hb1⟩; have HT := Lib.hid (HT.out.step hb1); have HB := Lib.hid (HB.out.trans (hb1.mono HB.out.size)); clear hb1) | (go_at_call 31; refine (rends_any _ _).mono ?_; rintro e w1 ⟨rfl, rfl⟩) | (go_at_call 32; refine (isaAsks_any _ _ HT.out).mono ?_; rintro e w1 ⟨rfl, hb1⟩; have HT := Lib.hid (HT.out.step hb1); have HB := Lib.hid (HB.out.trans (hb1.mono HB.out.size)); clear hb1) | (go_at_call 17; refine (alive06 _ HT.out).mono ?_; rintro e w1 ⟨rfl, hb1⟩; have HT := Lib.hid (HT.out.step hb1); have HB := Lib.hid (HB.out.trans (hb1.mono HB.out.size)); clear hb1))
    go_ret
    exact ⟨rfl, HB.out⟩
end Go.Proofs.YthhmnipggienaaaDoor

/-
  Chapter 7: the law CodePrints returns true, whatever is handed in. Condition: the table isa.rows.
-/
import Derived.Test.YthcbceaeobnmgaaDoorCSm7
import Derived.Test.YthcbceaeobnmgaaDoorRPrn7
import Derived.Test.YthcbceaeobnmgaaDoorCln7
import Derived.Test.YthcbceaeobnmgaaDoorAly7
import Derived.Test.YthcbceaeobnmgaaDoorSchT
namespace Go.Proofs.YthcbceaeobnmgaaDoor
open Go.RowKit
theorem light_of {fs : List Fn} (hl : lightP fs = true) : fs.length ≤ 20 ∧ ∀ f ∈ fs, f.code.length ≤ 70 ∧ f.safe.length ≤ 70 := by
  unfold lightP at hl
  simp only [Bool.and_eq_true, decide_eq_true_eq, List.all_eq_true] at hl
  refine ⟨hl.1, fun f hf => ?_⟩
  have := hl.2 f hf
  unfold lightF at this
  simpa using this
/-- What Print tells, in one form for both cases: the bytes, and the fault. -/
def outB (fs : List Fn) : List Nat := if printOk fs = true then progB fs else []
def outF (fs : List Fn) : Int := if printOk fs = true then 0 else 1
theorem PrintOut.all {base : Nat} {fs : List Fn} {e : Ending} {w : World} (h : PrintOut base fs e w) : ∃ A c, e = .returned (.tuple #[.slice A (outB fs).length c, .int .i64 (outF fs)]) ∧ Row w w.heap.size A (byteVals (outB fs)) := by
  unfold PrintOut at h
  unfold outB outF
  by_cases hp : printOk fs = true
  · rw [if_pos hp] at h ⊢
    rw [if_pos hp]
    obtain ⟨A, c, e1, h1⟩ := h
    exact ⟨A, c, e1, h1.row⟩
  · rw [if_neg hp] at h ⊢
    rw [if_neg hp]
    exact ⟨none, 0, h, .inl rfl⟩
set_option maxHeartbeats 4000000 in
set_option maxRecDepth 100000 in
theorem prints07 (A A' : Option Addr) (c c' : Nat) (fs gs : List Fn) (w : World) (hT : Tab w) (hm : fs.length ≤ maxLen) (hf : FnsOk w w.heap.size A fs) (hm' : gs.length ≤ maxLen) (hf' : FnsOk w w.heap.size A' gs) :
    Calls Tryd.prog 4 #[.agg #[.slice A fs.length c], .agg #[.slice A' gs.length c']] w fun e w' => e = .returned (.bool true) ∧ Below w.heap.size w w' := by
  have hW : ∃ W : World, Hid (W = (w.alloc (.cells #[.slice A fs.length c] 24)).alloc (.cells #[.slice A' gs.length c'] 24)) := ⟨_, rfl⟩
  obtain ⟨W, HW⟩ := hW
  have HB0 := Lib.hid (show Below w.heap.size w W by rw [HW.out]; exact ((Below.refl _ _).alloc (Nat.le_refl _) _).alloc (by simp) _)
  have HBP := Lib.hid (show Blk W w.heap.size 24 #[.slice A fs.length c] by rw [HW.out]; exact (Blk.new w _ _).alloc _)
  have HBQ := Lib.hid (show Blk W (w.heap.size + 1) 24 #[.slice A' gs.length c'] by
    rw [HW.out]
    have h := Blk.new (w.alloc (.cells #[.slice A fs.length c] 24)) 24 #[.slice A' gs.length c']
    rw [World.size_alloc] at h
    exact h)
  have HTA := Lib.hid hT
  have HF := Lib.hid hf
  have HG := Lib.hid hf'
  have HM := Lib.hid hm
  have HM' := Lib.hid hm'
  clear hT hf hf' hm hm'
  go_enter Tryd.func4, Tryd.ntmps4
  go_wp2_with fail
  rw [← HW.out]
  refine (light_any A c fs W HM.out (HF.out.step HB0.out)).mono ?_
  rintro e w1 ⟨rfl, hb1⟩
  have HB1 := Lib.hid (HB0.out.trans (hb1.mono HB0.out.size))
  have HBP1 := Lib.hid (HBP.out.below hb1 HBP.out.lt)
  have HBQ1 := Lib.hid (HBQ.out.below hb1 HBQ.out.lt)
  have kp := HBP1.out.cell 0
  have kq := HBQ1.out.cell 0
  simp only [List.getElem?_toArray, List.getElem?_cons_zero] at kp kq
  clear hb1
  cases hl : lightP fs with
  | false =>
    clear hl
    go_wp2_with fail
    refine (alive07 w1 (HTA.out.step HB1.out)).mono ?_
    rintro e w9 ⟨rfl, hb⟩
    have HB9 := Lib.hid (HB1.out.trans (hb.mono HB1.out.size))
    clear hb
    go_wp2_with fail
    go_ret
    exact ⟨rfl, HB9.out⟩
  | true =>
    have HL := Lib.hid (light_of hl)
    clear hl
    go_wp2_with fail
    refine (light_any A' c' gs w1 HM'.out (HG.out.step HB1.out)).mono ?_
    rintro e w2 ⟨rfl, hb2⟩
    have HB2 := Lib.hid (HB1.out.trans (hb2.mono HB1.out.size))
    have HBP2 := Lib.hid (HBP1.out.below hb2 HBP1.out.lt)
    have HBQ2 := Lib.hid (HBQ1.out.below hb2 HBQ1.out.lt)
    clear kp kq
    have kp := HBP2.out.cell 0
    have kq := HBQ2.out.cell 0
    simp only [List.getElem?_toArray, List.getElem?_cons_zero] at kp kq
    clear hb2
    cases hl : lightP gs with
    | false =>
      clear hl
      go_wp2_with fail
      refine (alive07 w2 (HTA.out.step HB2.out)).mono ?_
      rintro e w9 ⟨rfl, hb⟩
      have HB9 := Lib.hid (HB2.out.trans (hb.mono HB2.out.size))
      clear hb
      go_wp2_with fail
      go_ret
      exact ⟨rfl, HB9.out⟩
    | true =>
      clear hl
      go_wp2_with fail
      refine (print_any A c fs w2 (HTA.out.step HB2.out) HM.out (HF.out.step HB2.out)).mono ?_
      rintro e w3 ⟨hp, hb3⟩
      obtain ⟨X, cx, rfl, hx⟩ := hp.all
      have HB3 := Lib.hid (HB2.out.trans (hb3.mono HB2.out.size))
      have HBP3 := Lib.hid (HBP2.out.below hb3 HBP2.out.lt)
      have HBQ3 := Lib.hid (HBQ2.out.below hb3 HBQ2.out.lt)
      have HX3 := Lib.hid hx
      clear kp kq hp hb3 hx
      have kp := HBP3.out.cell 0
      have kq := HBQ3.out.cell 0
      simp only [List.getElem?_toArray, List.getElem?_cons_zero] at kp kq
      go_wp2_with fail
      refine (rprint_any A c fs w3 HM.out (HF.out.step HB3.out)).mono ?_
      rintro e w4 ⟨hp, hb4⟩
      obtain ⟨Y, cy, rfl, hy⟩ := hp.all
      have HB4 := Lib.hid (HB3.out.trans (hb4.mono HB3.out.size))
      have HBP4 := Lib.hid (HBP3.out.below hb4 HBP3.out.lt)
      have HBQ4 := Lib.hid (HBQ3.out.below hb4 HBQ3.out.lt)
      have HX4 := Lib.hid ((HX3.out.below hb4).more hb4.size)
      have HY4 := Lib.hid hy
      clear kp kq hp hb4 hy
      have kp := HBP4.out.cell 0
      have kq := HBQ4.out.cell 0
      simp only [List.getElem?_toArray, List.getElem?_cons_zero] at kp kq
      have hgx : ∃ bx : List Nat, Hid (bx = outB fs) := ⟨_, rfl⟩
      obtain ⟨bx, HGX⟩ := hgx
      have hfx : ∃ fx : Int, Hid (fx = outF fs) := ⟨_, rfl⟩
      obtain ⟨fx, HFX⟩ := hfx
      rw [← HGX.out, ← HFX.out]
      rw [← HGX.out] at HX4 HY4
      go_wp2_with fail
      have F0 : ∀ w', Below w4.heap.size w4 w' → w'.cell? ⟨w.heap.size, 0, none⟩ = some (.slice A fs.length c) := fun w' h => (h.cell (p := ⟨w.heap.size, 0, none⟩) HBP4.out.lt).trans kp
      have F1 : ∀ w', Below w4.heap.size w4 w' → w'.cell? ⟨w.heap.size + 1, 0, none⟩ = some (.slice A' gs.length c') := fun w' h => (h.cell (p := ⟨w.heap.size + 1, 0, none⟩) HBQ4.out.lt).trans kq
      have hsx : ∃ sx : ByteArray, Hid (sx = str bx) := ⟨_, rfl⟩
      obtain ⟨sx, HSX⟩ := hsx
      have F2 : ∀ w', Below w4.heap.size w4 w' → (convert 35 9 (.slice X bx.length cx)).run Tryd.prog w' = .ok (.string sx) w' := fun w' h => by
        rw [HSX.out]
        exact conv_row _ _ 5 Tryd.underlying35 Tryd.underlying5 Tryd.underlying9 rfl (HX4.out.below h)
      have F3 : ∀ w', Below w4.heap.size w4 w' → (convert 35 9 (.slice Y bx.length cy)).run Tryd.prog w' = .ok (.string sx) w' := fun w' h => by
        rw [HSX.out]
        exact conv_row _ _ 5 Tryd.underlying35 Tryd.underlying5 Tryd.underlying9 rfl (HY4.out.below h)
      have HF4 := Lib.hid (HF.out.step HB4.out)
      have HG4 := Lib.hid (HG.out.step HB4.out)
      have HT4 := Lib.hid (HTA.out.step HB4.out)
      clear kp kq
      refine region_sch (fun w' => Below w4.heap.size w4 w') [([0, 1, 2, 3, 4, 5, 6, 7, 8, 9, 10, 11, 13], 12), ([], 14), ([15, 16, 17, 18, 19, 21, 22], 20), ([], 23), ([24, 25, 26, 27, 29], 28), ([], 30), ([31, 32], 33)] [34, 35] (by kernel_rfl) (by kernel_rfl) (by kernel_rfl) (fun _ _ d _ _ h => by cases d <;> exact h) (Below.refl _ _).drew ?_
      (try simp only [Act.put, List.setIfInBounds_toArray, List.set_cons_zero, List.set_cons_succ]); refine sch_seg ?_; simp only [pickOps, List.getElem?_toArray, List.getElem?_cons_zero, List.getElem?_cons_succ]; (repeat (first | go_big_quiet_skip | (go_big_quiet_want; first | (go_big_quiet_op; first | go_big_quiet_on | ((first | with_reducible refine ⟨_, fun _ _ => rfl, ?_⟩); go_big_quiet_on)) | (simp (contextual := true) [go_sem, F0, F2, F3]; with_reducible refine ⟨_, fun _ _ => rfl, ?_⟩; go_big_quiet_on)))); refine wpQuiet_nil ?_
      go_wp2_with fail
      refine (codeFits_any A c fs w4.drew (HT4.out.step (Below.refl _ _).drew) HM.out (HF4.out.step (Below.refl _ _).drew)).mono ?_
      rintro e w5 ⟨rfl, hb⟩
      have HB5 := Lib.hid ((Below.refl w4.heap.size w4).drew.trans hb)
      clear hb
      have hfp : ∃ fp : Bool, Hid (fp = fitsP fs) := ⟨_, rfl⟩
      obtain ⟨fp, HFPP⟩ := hfp
      rw [← HFPP.out]
      go_wp2_with fail
      refine ⟨fun w' => Below w4.heap.size w4 w', HB5.out, fun _ h => h, ?_⟩
      (try simp only [Act.put, List.setIfInBounds_toArray, List.set_cons_zero, List.set_cons_succ]); refine sch_seg ?_; simp only [pickOps, List.getElem?_toArray, List.getElem?_cons_zero, List.getElem?_cons_succ]; (repeat (first | go_big_quiet_skip | (go_big_quiet_want; first | (go_big_quiet_op; first | go_big_quiet_on | ((first | with_reducible refine ⟨_, fun _ _ => rfl, ?_⟩); go_big_quiet_on)) | (simp (contextual := true) [go_sem, F0]; with_reducible refine ⟨_, fun _ _ => rfl, ?_⟩; go_big_quiet_on)))); refine wpQuiet_nil ?_
      go_wp2_with fail
      refine (rfits_any A c fs w5 HM.out (HF4.out.step HB5.out)).mono ?_
      rintro e w6 ⟨rfl, hb⟩
      have HB6 := Lib.hid (HB5.out.trans (hb.mono HB5.out.size))
      clear hb
      rw [← HFPP.out]
      go_wp2_with fail
      refine ⟨fun w' => Below w4.heap.size w4 w', HB6.out, fun _ h => h, ?_⟩
      (try simp only [Act.put, List.setIfInBounds_toArray, List.set_cons_zero, List.set_cons_succ]); refine sch_seg ?_; simp only [pickOps, List.getElem?_toArray, List.getElem?_cons_zero, List.getElem?_cons_succ]; (repeat (first | go_big_quiet_skip | (go_big_quiet_want; first | (go_big_quiet_op; first | go_big_quiet_on | ((first | with_reducible refine ⟨_, fun _ _ => rfl, ?_⟩); go_big_quiet_on)) | (simp (contextual := true) [go_sem, F0, F1]; with_reducible refine ⟨_, fun _ _ => rfl, ?_⟩; go_big_quiet_on)))); refine wpQuiet_nil ?_
      go_wp2_with fail
      refine (codeSame_any A A' c c' fs gs w6 HM.out HM'.out (HF4.out.step HB6.out) (HG4.out.step HB6.out)).mono ?_
      rintro e w7 ⟨⟨q1, rfl, hq1⟩, hb⟩
      have HQ1 := Lib.hid hq1
      have HB7 := Lib.hid (HB6.out.trans (hb.mono HB6.out.size))
      clear hb hq1
      go_wp2_with fail
      refine ⟨fun w' => Below w4.heap.size w4 w', HB7.out, fun _ h => h, ?_⟩
      (try simp only [Act.put, List.setIfInBounds_toArray, List.set_cons_zero, List.set_cons_succ]); refine sch_seg ?_; simp only [pickOps, List.getElem?_toArray, List.getElem?_cons_zero, List.getElem?_cons_succ]; (repeat (first | go_big_quiet_skip | (go_big_quiet_want; first | (go_big_quiet_op; first | go_big_quiet_on | ((first | with_reducible refine ⟨_, fun _ _ => rfl, ?_⟩); go_big_quiet_on)) | (simp (contextual := true) [go_sem, F0]; with_reducible refine ⟨_, fun _ _ => rfl, ?_⟩; go_big_quiet_on)))); refine wpQuiet_nil ?_
      go_wp2_with fail
      refine (same7_any A A' c c' fs gs w7 HM.out (HF4.out.step HB7.out) (HG4.out.step HB7.out)).mono ?_
      rintro e w8 ⟨⟨q2, rfl, hq2⟩, hb⟩
      have hqq : q2 = q1 := by
        have := HQ1.out
        cases q1 <;> cases q2 <;> simp_all
      subst hqq
      have HB8 := Lib.hid (HB7.out.trans (hb.mono HB7.out.size))
      clear hb hq2
      go_wp2_with fail
      refine ⟨fun w' => Below w4.heap.size w4 w', HB8.out, fun _ h => h, ?_⟩
      (try simp only [Act.put, List.setIfInBounds_toArray, List.set_cons_zero, List.set_cons_succ]); refine sch_seg ?_; simp only [pickOps, List.getElem?_toArray, List.getElem?_cons_zero, List.getElem?_cons_succ]; (repeat (first | go_big_quiet_skip | (go_big_quiet_want; first | (go_big_quiet_op; first | go_big_quiet_on | ((first | with_reducible refine ⟨_, fun _ _ => rfl, ?_⟩); go_big_quiet_on)) | (simp (contextual := true) [go_sem, F0]; with_reducible refine ⟨_, fun _ _ => rfl, ?_⟩; go_big_quiet_on)))); refine wpQuiet_nil ?_
      go_wp2_with fail
      refine (codeClone_any A c fs w8 (by have := HL.out.1; omega) (fun f hf => ⟨by have := (HL.out.2 f hf).1; omega, by have := (HL.out.2 f hf).2; omega⟩) (HF4.out.step HB8.out)).mono ?_
      rintro e w9 ⟨Z, cz, rfl, hz, hb⟩
      have HB9 := Lib.hid (HB8.out.trans (hb.mono HB8.out.size))
      have HZ9 := Lib.hid (FnsNew.ok hz.new)
      clear hb hz
      go_wp2_with fail
      refine ⟨fun w' => Below w4.heap.size w4 w', HB9.out, fun _ h => h, ?_⟩
      (try simp only [Act.put, List.setIfInBounds_toArray, List.set_cons_zero, List.set_cons_succ]); refine sch_seg ?_; simp only [pickOps, List.getElem?_toArray, List.getElem?_cons_zero, List.getElem?_cons_succ]; (repeat (first | go_big_quiet_skip | (go_big_quiet_want; first | (go_big_quiet_op; first | go_big_quiet_on | ((first | with_reducible refine ⟨_, fun _ _ => rfl, ?_⟩); go_big_quiet_on)) | (simp (contextual := true) [go_sem, F0]; with_reducible refine ⟨_, fun _ _ => rfl, ?_⟩; go_big_quiet_on)))); refine wpQuiet_nil ?_
      go_wp2_with fail
      refine (same7_true Z A cz c fs w9 HM.out HZ9.out (HF4.out.step HB9.out)).mono ?_
      rintro e w10 ⟨rfl, hb⟩
      have HB10 := Lib.hid (HB9.out.trans (hb.mono HB9.out.size))
      clear hb
      go_wp2_with fail
      refine ⟨fun w' => Below w4.heap.size w4 w', HB10.out, fun _ h => h, ?_⟩
      (try simp only [Act.put, List.setIfInBounds_toArray, List.set_cons_zero, List.set_cons_succ]); refine sch_seg ?_; simp only [pickOps, List.getElem?_toArray, List.getElem?_cons_zero, List.getElem?_cons_succ]; (repeat (first | go_big_quiet_skip | (go_big_quiet_want; first | (go_big_quiet_op; first | go_big_quiet_on | ((first | with_reducible refine ⟨_, fun _ _ => rfl, ?_⟩); go_big_quiet_on)) | (simp (contextual := true) [go_sem, F0]; with_reducible refine ⟨_, fun _ _ => rfl, ?_⟩; go_big_quiet_on)))); refine wpQuiet_nil ?_
      go_wp2_with fail
      refine (alive07 w10 (HT4.out.step HB10.out)).mono ?_
      rintro e w11 ⟨rfl, hb⟩
      have HB11 := Lib.hid (HB10.out.trans (hb.mono HB10.out.size))
      clear hb
      go_wp2_with fail
      refine ⟨fun w' => Below w4.heap.size w4 w', HB11.out, fun _ h => h, ?_⟩
      (try simp only [Act.put, List.setIfInBounds_toArray, List.set_cons_zero, List.set_cons_succ]); refine sch_end ?_; simp only [pickOps, List.getElem?_toArray, List.getElem?_cons_zero, List.getElem?_cons_succ]; (repeat (first | go_big_quiet_skip | (go_big_quiet_want; first | (go_big_quiet_op; first | go_big_quiet_on | ((first | with_reducible refine ⟨_, fun _ _ => rfl, ?_⟩); go_big_quiet_on)) | (simp (contextual := true) [go_sem, F0]; with_reducible refine ⟨_, fun _ _ => rfl, ?_⟩; go_big_quiet_on)))); refine wpQuiet_nil ?_
      go_wp2_with fail
      go_ret
      exact ⟨rfl, HB4.out.trans (HB11.out.mono HB4.out.size)⟩
end Go.Proofs.YthcbceaeobnmgaaDoor

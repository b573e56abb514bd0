/-
  Chapter 11: the law VmSteps returns true, whatever is handed in. Condition: the table isa.rows.
-/
import Derived.Test.YtoacnphgkgklcaaDoorLgt11
import Derived.Test.YtoacnphgkgklcaaDoorRSt11
namespace Go.Proofs.YtoacnphgkgklcaaDoor
open Go.RowKit
set_option maxHeartbeats 8000000 in
set_option maxRecDepth 100000 in
theorem steps11 (t : Th) (A B : Option Addr) (c d : Nat) (ans : Int) (fs : List Fn) (w : World) (hT : Tab w) (hm : fs.length ≤ maxLen) (hf : FnsOk w w.heap.size A fs) (ht : ThOk w w.heap.size t B d) :
    Calls Tryd.prog 3 #[.agg #[.slice A fs.length c], .agg (thArr t B d), .int .i64 ans] w fun e w' => e = .returned (.bool true) ∧ Below w.heap.size w w' := by
  have HT := Lib.hid ht
  have HTA := Lib.hid hT
  have HF := Lib.hid hf
  have HM := Lib.hid hm
  have HSZ := Lib.hid (show (Tryd.prog.info? 28).map (·.size) = some (thArr t B d).size by rw [thArr_size B d ht.regs]; exact Tryd.infoTh)
  clear ht hf hm hT
  generalize hX : thArr t B d = X at *
  have HX := Lib.hid hX
  clear hX
  have hb0 := below2 w (.cells #[.slice A fs.length c] 24) (.cells X 28)
  have hW : ∃ W : World, Hid (W = (w.alloc (.cells #[.slice A fs.length c] 24)).alloc (.cells X 28)) := ⟨_, rfl⟩
  obtain ⟨W, HW⟩ := hW
  have hBP : Blk W w.heap.size 24 #[.slice A fs.length c] := by rw [HW.out]; exact (Blk.new w _ _).alloc _
  have hBT : Blk W (w.heap.size + 1) 28 X := by rw [HW.out]; exact heap_alloc2_new w _ _
  rw [← HW.out] at hb0
  have HB0 := Lib.hid hb0
  have HBP := Lib.hid hBP
  have HBT := Lib.hid hBT
  clear hb0 hBT hBP
  go_enter Tryd.func3, Tryd.ntmps3
  go_wp2_with (refine wpList_load_rowW (by rfl) 28 _ rfl (w.heap.size + 1) rfl 28 X (0, 0) _ (by rw [← HW.out]; exact HBT.out) Tryd.underlying28 rfl HSZ.out ?_)
  rw [← HW.out, ← HX.out]
  refine (light11_any t A B c d fs W HM.out (HF.out.step HB0.out) (HT.out.step HB0.out)).mono ?_
  rintro e w1 ⟨rfl, hb1⟩
  have HB1 := Lib.hid (HB0.out.trans (hb1.mono HB0.out.size))
  have HBP1 := Lib.hid (HBP.out.below hb1 HBP.out.lt)
  have HBT1 := Lib.hid (HBT.out.below hb1 HBT.out.lt)
  have kp := HBP1.out.cell 0
  simp only [List.getElem?_toArray, List.getElem?_cons_zero] at kp
  clear hb1
  cases hlg : light11 fs t with
  | false =>
    clear hlg
    go_wp2_with fail
    refine (alive11 w1 (HTA.out.step HB1.out)).mono ?_
    rintro e w2 ⟨rfl, hb⟩
    have HB2 := Lib.hid (HB1.out.trans (hb.mono HB1.out.size))
    clear hb
    go_wp2_with fail
    go_ret
    exact ⟨rfl, HB2.out⟩
  | true =>
    have HST := Lib.hid (show t.stack.length ≤ 40 by unfold light11 at hlg; rw [Bool.and_eq_true, decide_eq_true_eq] at hlg; exact hlg.2)
    clear hlg
    go_wp2_with (refine wpList_load_rowW (by rfl) 28 _ rfl (w.heap.size + 1) rfl 28 X (0, 0) _ HBT1.out Tryd.underlying28 rfl HSZ.out ?_)
    rw [← HX.out]
    refine (rFits_any t A B c d fs w1 HM.out (HF.out.step HB1.out) (HT.out.step HB1.out)).mono ?_
    rintro e w2 ⟨rfl, hb2⟩
    have HB2 := Lib.hid (HB1.out.trans (hb2.mono HB1.out.size))
    have HBP2 := Lib.hid (HBP1.out.below hb2 HBP1.out.lt)
    have HBT2 := Lib.hid (HBT1.out.below hb2 HBT1.out.lt)
    have kp2 := HBP2.out.cell 0
    simp only [List.getElem?_toArray, List.getElem?_cons_zero] at kp2
    clear hb2 kp
    go_wp2_with (refine wpList_load_rowW (by rfl) 28 _ rfl (w.heap.size + 1) rfl 28 X (0, 0) _ HBT2.out Tryd.underlying28 rfl HSZ.out ?_)
    rw [← HX.out]
    refine (vmAt_any t A B c d fs w2 (HTA.out.step HB2.out) HM.out (HF.out.step HB2.out) (HT.out.step HB2.out)).mono ?_
    rintro e w3 ⟨rfl, hb3⟩
    have HB3 := Lib.hid (HB2.out.trans (hb3.mono HB2.out.size))
    have HBP3 := Lib.hid (HBP2.out.below hb3 HBP2.out.lt)
    have HBT3 := Lib.hid (HBT2.out.below hb3 HBT2.out.lt)
    have kp3 := HBP3.out.cell 0
    simp only [List.getElem?_toArray, List.getElem?_cons_zero] at kp3
    have hz3 : w.heap.size < w3.heap.size := HBP3.out.lt
    generalize hI : (if atB fs t = true then insAt fs t.fn t.pc else zeroIns) = ins
    generalize hJ : atB fs t = is
    obtain ⟨x0, x1, x2, x3, x4⟩ := ins
    have HI := Lib.hid hI
    have HJ := Lib.hid hJ
    unfold insArr
    clear hb3 kp2 hI hJ
    go_wp2_with (refine wpList_load_rowW (by rfl) 28 _ rfl (w.heap.size + 1) rfl 28 X (0, 0) _ (show Blk _ _ _ _ from HBT3.out.alloc _) Tryd.underlying28 rfl HSZ.out ?_)
    rw [← HX.out]
    have HB3a := Lib.hid (HB3.out.alloc HB3.out.size (.cells #[.int .i64 x0, .int .i64 x1, .int .i64 x2, .int .i64 x3, .int .i64 x4] 32))
    refine (vmStep_any t A B c d fs ans _ (HTA.out.step HB3a.out) HM.out (HF.out.step HB3a.out) (HT.out.step HB3a.out) (by have := HST.out; omega)).mono ?_
    rintro e w4 ⟨B4, d4, rfl, hok4, _, hb4⟩
    have HB4 := Lib.hid (HB3a.out.trans (hb4.mono HB3a.out.size))
    have HBP4 := Lib.hid ((HBP3.out.alloc _).below hb4 (HBP3.out.alloc _).lt)
    have HBT4 := Lib.hid ((HBT3.out.alloc _).below hb4 (HBT3.out.alloc _).lt)
    have HBI4 := Lib.hid ((Blk.new w3 32 #[.int .i64 x0, .int .i64 x1, .int .i64 x2, .int .i64 x3, .int .i64 x4]).below hb4 (Blk.new w3 _ _).lt)
    have HS4 := Lib.hid (show w3.heap.size + 1 ≤ w4.heap.size by have := hb4.size; rw [World.size_alloc] at this; exact this)
    have HOK4 := Lib.hid hok4
    have hG : ∃ gI : Nat, Hid (gI = w3.heap.size) := ⟨_, rfl⟩
    obtain ⟨gI, HgI⟩ := hG
    rw [← HgI.out]
    rw [← HgI.out] at HBI4
    clear hok4 hb4 kp3
    generalize hR : stepS fs t ans = r at *
    obtain ⟨u, n, did⟩ := r
    have HRR := Lib.hid hR
    have HSZ4 := Lib.hid (show (Tryd.prog.info? 28).map (·.size) = some (thArr u B4 d4).size by rw [thArr_size B4 d4 HOK4.out.regs]; exact Tryd.infoTh)
    have HSY := Lib.hid (thArr_size B4 d4 HOK4.out.regs)
    have HONE4 := Lib.hid (thArr_one u B4 d4)
    simp only
    generalize hY : thArr u B4 d4 = Y at *
    have HY := Lib.hid hY
    clear hR hY
    have hkey : ∀ W5 : World, Hid (W5 = (w4.alloc (.cells #[.int .i64 0, .int .i64 0, .int .i64 0, .int .i64 0, .int .i64 0, .int .i64 0, .int .i64 0, .int .i64 0, .int .i64 0, .int .i64 0, .slice none 0 0, .bool false] 28)).setRow w4.heap.size Y) → Blk W5 w.heap.size 24 #[.slice A fs.length c] ∧ Blk W5 (w.heap.size + 1) 28 X ∧ Blk W5 gI 32 #[.int .i64 x0, .int .i64 x1, .int .i64 x2, .int .i64 x3, .int .i64 x4] ∧ Blk W5 w4.heap.size 28 Y ∧ Below w4.heap.size w4 W5 := by
      intro W5 h5
      rw [h5.out]
      refine ⟨(HBP4.out.alloc _).farRow (by have := HBP4.out.lt; omega) _, (HBT4.out.alloc _).farRow (by have := HBT4.out.lt; omega) _, (HBI4.out.alloc _).farRow (by have := HBI4.out.lt; omega) _, (Blk.new w4 _ _).setRow _, below_setRow ((Below.refl _ _).alloc (Nat.le_refl _) _) (Nat.le_refl _) (by simp) _⟩
    have KEY := Lib.hid hkey
    clear hkey
    go_wp2_with (first | (refine wpList_store_row rfl 28 _ _ rfl w4.heap.size Y rfl rfl 28 _ (Blk.new w4 _ _) HSZ4.out (by rw [HSY.out]; rfl) HONE4.out ?_; have hW5 : ∃ W5 : World, Hid (W5 = (w4.alloc (.cells #[.int .i64 0, .int .i64 0, .int .i64 0, .int .i64 0, .int .i64 0, .int .i64 0, .int .i64 0, .int .i64 0, .int .i64 0, .int .i64 0, .slice none 0 0, .bool false] 28)).setRow w4.heap.size Y) := ⟨_, rfl⟩; obtain ⟨W5, HW5⟩ := hW5; rw [← HW5.out]; obtain ⟨hP5, hT5, hI5, hY5, hB5⟩ := KEY.out W5 HW5; have HP5 := Lib.hid hP5; have HT5 := Lib.hid hT5; have HI5 := Lib.hid hI5; have HY5 := Lib.hid hY5; have HB5 := Lib.hid hB5; have kp5 := hP5.cell 0; simp only [List.getElem?_toArray, List.getElem?_cons_zero] at kp5) | (refine wpList_load_rowW (by rfl) 28 _ rfl (w.heap.size + 1) rfl 28 X (0, 0) _ HT5.out Tryd.underlying28 rfl HSZ.out ?_))
    rw [← HX.out]
    clear hP5 hT5 hI5 hY5 hB5
    have HB5w := Lib.hid (HB4.out.trans (HB5.out.mono HB4.out.size))
    refine (vmFits_any t A B c d fs W5 (HTA.out.step HB5w.out) HM.out (HF.out.step HB5w.out) (HT.out.step HB5w.out)).mono ?_
    rintro e w6 ⟨rfl, hb6⟩
    have HB6 := Lib.hid (HB5w.out.trans (hb6.mono HB5w.out.size))
    have HP6 := Lib.hid (HP5.out.below hb6 HP5.out.lt)
    have HT6 := Lib.hid (HT5.out.below hb6 HT5.out.lt)
    have HI6 := Lib.hid (HI5.out.below hb6 HI5.out.lt)
    have HY6 := Lib.hid (HY5.out.below hb6 HY5.out.lt)
    have HOK6 := Lib.hid ((HOK4.out.step HB5.out).step hb6)
    have hG : ∃ gY : Nat, Hid (gY = w4.heap.size) := ⟨_, rfl⟩
    obtain ⟨gY, HgY⟩ := hG
    rw [← HgY.out]
    rw [← HgY.out] at HY6
    have kp6 := HP6.out.cell 0
    have i0 := HI6.out.cell 0
    have i1 := HI6.out.cell 1
    have i2 := HI6.out.cell 2
    have i3 := HI6.out.cell 3
    have i4 := HI6.out.cell 4
    simp only [List.getElem?_toArray, List.getElem?_cons_zero, List.getElem?_cons_succ] at kp6 i0 i1 i2 i3 i4
    clear hb6 kp5
    cases hfit : fitsT fs t with
    | false =>
      have hat : atB fs t = false := by unfold atB; rw [hfit, Bool.and_false]
      have e1 := HI.out
      rw [hat, if_neg (by decide)] at e1
      have e2 := HJ.out
      rw [hat] at e2
      have e3 := HRR.out
      unfold stepS at e3
      rw [hfit, if_neg (by decide)] at e3
      injection e3 with e3 e4
      injection e4 with e4 e5
      unfold zeroIns at e1
      injection e1 with a0 a1 a2 a3 a4
      subst a0 a1 a2 a3 a4 e2 e3 e4 e5
      clear hfit hat
      go_wp2_with (refine wpList_load_rowW (by rfl) 28 _ rfl gY rfl 28 Y (0, 0) _ HY6.out Tryd.underlying28 rfl HSZ4.out ?_)
      rw [← HY.out]
      refine (rSame_any zeroT zeroT B4 none d4 0 w6 HOK6.out (nilT_ok _ zeroT _ _ rfl rfl (Nat.zero_le _))).mono ?_
      rintro e w7 ⟨rfl, hb7⟩
      rw [sameT_self]
      have HB7 := Lib.hid (HB6.out.trans (hb7.mono HB6.out.size))
      clear hb7
      go_wp2_with fail
      refine (alive11 w7 (HTA.out.step HB7.out)).mono ?_
      rintro e w8 ⟨rfl, hb⟩
      have HB8 := Lib.hid (HB7.out.trans (hb.mono HB7.out.size))
      clear hb
      go_wp2_with fail
      go_ret
      exact ⟨rfl, HB8.out⟩
    | true =>
      have hat : atB fs t = !t.done := by unfold atB; rw [hfit, Bool.and_true]
      have e3 := HRR.out
      unfold stepS at e3
      rw [if_pos hfit] at e3
      have HE3 := Lib.hid e3
      have HFIT := Lib.hid hfit
      have hins : (if t.done = true then zeroIns else insAt fs t.fn t.pc) = ⟨x0, x1, x2, x3, x4⟩ := by
        rw [← HI.out, hat]
        cases t.done <;> rfl
      have hisd : (!t.done) = is := by rw [← HJ.out, hat]
      have HINS := Lib.hid hins
      have HISD := Lib.hid hisd
      clear hfit hat e3 hins hisd
      go_wp2_with (refine wpList_load_rowW (by rfl) 28 _ rfl (w.heap.size + 1) rfl 28 X (0, 0) _ HT6.out Tryd.underlying28 rfl HSZ.out ?_)
      rw [← HX.out]
      refine (rAt_any t A B c d fs w6 HM.out (HF.out.step HB6.out) (HT.out.step HB6.out) HFIT.out).mono ?_
      rintro e w7 ⟨rfl, hb7⟩
      rw [HINS.out, HISD.out]
      have HB7 := Lib.hid (HB6.out.trans (hb7.mono HB6.out.size))
      have HP7 := Lib.hid (HP6.out.below hb7 HP6.out.lt)
      have HT7 := Lib.hid (HT6.out.below hb7 HT6.out.lt)
      have HI7 := Lib.hid (HI6.out.below hb7 HI6.out.lt)
      have HY7 := Lib.hid (HY6.out.below hb7 HY6.out.lt)
      have HOK7 := Lib.hid (HOK6.out.step hb7)
      have kp7 := HP7.out.cell 0
      simp only [List.getElem?_toArray, List.getElem?_cons_zero] at kp7
      have hz7 : w.heap.size < w7.heap.size := HP7.out.lt
      unfold insArr
      clear hb7 kp6 i0 i1 i2 i3 i4
      go_wp2_with (refine wpList_load_rowW (by rfl) 28 _ rfl (w.heap.size + 1) rfl 28 X (0, 0) _ (show Blk _ _ _ _ from HT7.out.alloc _) Tryd.underlying28 rfl HSZ.out ?_)
      rw [← HX.out]
      have HB7a := Lib.hid (HB7.out.alloc HB7.out.size (.cells #[.int .i64 x0, .int .i64 x1, .int .i64 x2, .int .i64 x3, .int .i64 x4] 32))
      refine (rStep_any t A B c d fs ans _ HM.out (HF.out.step HB7a.out) (HT.out.step HB7a.out) HFIT.out).mono ?_
      rintro e w8 ⟨B8, d8, rfl, hok8, hb8⟩
      rw [HE3.out]
      rw [HE3.out] at hok8
      have HB8 := Lib.hid (HB7a.out.trans (hb8.mono HB7a.out.size))
      have HI8 := Lib.hid ((HI7.out.alloc _).below hb8 (HI7.out.alloc _).lt)
      have HY8 := Lib.hid ((HY7.out.alloc _).below hb8 (HY7.out.alloc _).lt)
      have HJ8 := Lib.hid ((Blk.new w7 32 #[.int .i64 x0, .int .i64 x1, .int .i64 x2, .int .i64 x3, .int .i64 x4]).below hb8 (Blk.new w7 _ _).lt)
      have HOK8 := Lib.hid ((HOK7.out.step ((Below.refl _ _).alloc (Nat.le_refl _) _)).step hb8)
      have HOK8' := Lib.hid hok8
      have hG : ∃ gJ : Nat, Hid (gJ = w7.heap.size) := ⟨_, rfl⟩
      obtain ⟨gJ, HgJ⟩ := hG
      rw [← HgJ.out]
      rw [← HgJ.out] at HJ8
      have HSZ8 := Lib.hid (show (Tryd.prog.info? 28).map (·.size) = some (thArr u B8 d8).size by rw [thArr_size B8 d8 hok8.regs]; exact Tryd.infoTh)
      have HSV := Lib.hid (thArr_size B8 d8 hok8.regs)
      have HONE8 := Lib.hid (thArr_one u B8 d8)
      simp only
      generalize hV : thArr u B8 d8 = V at *
      have HV := Lib.hid hV
      clear hV hok8 hb8 kp7
      have hkey : ∀ W9 : World, Hid (W9 = (w8.alloc (.cells #[.int .i64 0, .int .i64 0, .int .i64 0, .int .i64 0, .int .i64 0, .int .i64 0, .int .i64 0, .int .i64 0, .int .i64 0, .int .i64 0, .slice none 0 0, .bool false] 28)).setRow w8.heap.size V) → Blk W9 gI 32 #[.int .i64 x0, .int .i64 x1, .int .i64 x2, .int .i64 x3, .int .i64 x4] ∧ Blk W9 gJ 32 #[.int .i64 x0, .int .i64 x1, .int .i64 x2, .int .i64 x3, .int .i64 x4] ∧ Blk W9 gY 28 Y ∧ Blk W9 w8.heap.size 28 V ∧ Below w8.heap.size w8 W9 := by
        intro W5 h5
        rw [h5.out]
        refine ⟨(HI8.out.alloc _).farRow (by have := HI8.out.lt; omega) _, (HJ8.out.alloc _).farRow (by have := HJ8.out.lt; omega) _, (HY8.out.alloc _).farRow (by have := HY8.out.lt; omega) _, (Blk.new w8 _ _).setRow _, below_setRow ((Below.refl _ _).alloc (Nat.le_refl _) _) (Nat.le_refl _) (by simp) _⟩
      have KEY9 := Lib.hid hkey
      clear hkey
      go_wp2_with (first | (refine wpList_store_row rfl 28 _ _ rfl w8.heap.size V rfl rfl 28 _ (Blk.new w8 _ _) HSZ8.out (by rw [HSV.out]; rfl) HONE8.out ?_; have hW9 : ∃ W9 : World, Hid (W9 = (w8.alloc (.cells #[.int .i64 0, .int .i64 0, .int .i64 0, .int .i64 0, .int .i64 0, .int .i64 0, .int .i64 0, .int .i64 0, .int .i64 0, .int .i64 0, .slice none 0 0, .bool false] 28)).setRow w8.heap.size V) := ⟨_, rfl⟩; obtain ⟨W9, HW9⟩ := hW9; rw [← HW9.out]; obtain ⟨hI9, hJ9, hY9, hV9, hB9⟩ := KEY9.out W9 HW9; have HY9 := Lib.hid hY9; have HV9 := Lib.hid hV9; have HB9 := Lib.hid hB9; have i0 := hI9.cell 0; have i1 := hI9.cell 1; have i2 := hI9.cell 2; have i3 := hI9.cell 3; have i4 := hI9.cell 4; have j0 := hJ9.cell 0; have j1 := hJ9.cell 1; have j2 := hJ9.cell 2; have j3 := hJ9.cell 3; have j4 := hJ9.cell 4; simp only [List.getElem?_toArray, List.getElem?_cons_zero, List.getElem?_cons_succ] at i0 i1 i2 i3 i4 j0 j1 j2 j3 j4) | (refine wpList_load_rowW (by rfl) 28 _ rfl gY rfl 28 Y (0, 0) _ HY9.out Tryd.underlying28 rfl HSZ4.out ?_) | (refine wpList_load_rowW (by rfl) 28 _ rfl w8.heap.size rfl 28 V (0, 0) _ HV9.out Tryd.underlying28 rfl HSZ8.out ?_))
      rw [← HY.out, ← HV.out]
      have HB9w := Lib.hid (HB8.out.trans (HB9.out.mono HB8.out.size))
      refine (rSame_any u u B4 B8 d4 d8 W9 (HOK8.out.step HB9.out) (HOK8'.out.step HB9.out)).mono ?_
      rintro e w10 ⟨rfl, hb10⟩
      rw [sameT_self]
      have HB10 := Lib.hid (HB9w.out.trans (hb10.mono HB9w.out.size))
      clear hb10 i0 i1 i2 i3 i4 j0 j1 j2 j3 j4 hI9 hJ9 hY9 hV9 hB9
      go_wp2_with fail
      refine (alive11 w10 (HTA.out.step HB10.out)).mono ?_
      rintro e w11 ⟨rfl, hb⟩
      have HB11 := Lib.hid (HB10.out.trans (hb.mono HB10.out.size))
      clear hb
      go_wp2_with fail
      go_ret
      exact ⟨rfl, HB11.out⟩
end Go.Proofs.YtoacnphgkgklcaaDoor

/-
  Chapter 7: contracts of code.fits, code.long and code.Fits. Conditions: the table is laid, the program lies in memory.
-/
import Derived.Test.YthcbceaeobnmgaaDoorPln7
import Derived.Test.YthcbceaeobnmgaaDoorRef06b
import Derived.Test.YthcbceaeobnmgaaDoorSch
namespace Go.Proofs.YthcbceaeobnmgaaDoor
open Go.RowKit
theorem opName_str (op : Int) : ((opName op).toList = []) = (isOpB op = false) := by
  cases h : isOpB op with
  | false =>
    rw [opName_out op h]
    have : (⟨#[]⟩ : ByteArray).toList = [] := by decide +kernel
    simp [this]
  | true =>
    have h' : ¬ (op < 0 ∨ 24 ≤ op) := by simp [isOpB] at h; omega
    have : ¬ (opName op).toList = [] := by
      rcases op24 op h' with rfl | rfl | rfl | rfl | rfl | rfl | rfl | rfl | rfl | rfl | rfl | rfl | rfl | rfl | rfl | rfl | rfl | rfl | rfl | rfl | rfl | rfl | rfl | rfl <;> decide +kernel
    simp [this]
theorem narrow_any (x : Int) (w : World) : Calls Tryd.prog 47 #[.int .i64 x] w fun e w' => e = .returned (.bool (nar x)) ∧ w = w' := by
  unfold nar
  have h : (decide (0 ≤ x) = false) ∨ (decide (0 ≤ x) = true) := by cases decide (0 ≤ x) <;> simp
  rcases h with h | h
  · go_enter Tryd.func47, Tryd.ntmps47
    go_wp2_with fail
    go_ret
    rw [h]
    exact ⟨rfl, rfl⟩
  · go_enter Tryd.func47, Tryd.ntmps47
    go_wp2_with fail
    go_ret
    rw [h]
    exact ⟨rfl, rfl⟩
set_option maxHeartbeats 2000000 in
theorem long_any (op : Int) (w : World) (hT : Tab w) : Calls Tryd.prog 21 #[.int .i64 op] w fun e w' => e = .returned (.bool (longB op)) ∧ Below w.heap.size w w' := by
  have HT := Lib.hid hT
  clear hT
  unfold longB
  have HX := Lib.hid (isaNumber_any op w HT.out)
  have HY := Lib.hid (fun w1 h => isaTarget_any op w1 h)
  generalize opNumber op = x at *
  generalize opTarget op = y at *
  go_enter Tryd.func21, Tryd.ntmps21
  cases x with
  | true =>
    go_wp2_with fail
    refine HX.out.mono ?_
    rintro e w1 ⟨rfl, hb1⟩
    go_wp2_with fail
    go_ret
    exact ⟨rfl, hb1⟩
  | false =>
    go_wp2_with fail
    refine HX.out.mono ?_
    rintro e w1 ⟨rfl, hb1⟩
    have HB1 := Lib.hid hb1
    clear hb1
    go_wp2_with fail
    refine (HY.out w1 (HT.out.step HB1.out)).mono ?_
    rintro e w2 ⟨rfl, hb2⟩
    have HB2 := Lib.hid (HB1.out.trans (hb2.mono HB1.out.size))
    clear hb2
    go_wp2_with fail
    go_ret
    exact ⟨by simp, HB2.out⟩
set_option maxHeartbeats 2000000 in
theorem fits_any (i : Ins) (w : World) (hT : Tab w) : Calls Tryd.prog 30 #[.agg #[.int .i64 i.op, .int .i64 i.a, .int .i64 i.b, .int .i64 i.c, .int .i64 i.n]] w fun e w' => e = .returned (.bool (fitsI i)) ∧ Below w.heap.size w w' := by
  obtain ⟨op, a, b, c, n⟩ := i
  have hW : ∃ W : World, Hid (W = w.alloc (.cells #[.int .i64 op, .int .i64 a, .int .i64 b, .int .i64 c, .int .i64 n] 33)) := ⟨_, rfl⟩
  obtain ⟨W, HW⟩ := hW
  have HT := Lib.hid (show Tab W by rw [HW.out]; exact hT.alloc _)
  have HB := Lib.hid (show Below w.heap.size w W by rw [HW.out]; exact (Below.refl _ _).alloc (Nat.le_refl _) _)
  have HBI := Lib.hid (show Blk W w.heap.size 33 #[.int .i64 op, .int .i64 a, .int .i64 b, .int .i64 c, .int .i64 n] by rw [HW.out]; exact Blk.new _ _ _)
  clear hT
  show Calls _ _ _ _ fun e w' => e = .returned (.bool (isOpB op && nar a && nar b && nar c)) ∧ Below w.heap.size w w'
  have hs := opName_str op
  have HX := Lib.hid (isaName_any op W HT.out)
  have HA := Lib.hid (fun w1 => narrow_any a w1)
  have HBB := Lib.hid (fun w1 => narrow_any b w1)
  have HC := Lib.hid (fun w1 => narrow_any c w1)
  generalize opName op = s at *
  generalize isOpB op = x at *
  generalize nar a = xa at *
  generalize nar b = xb at *
  generalize nar c = xc at *
  go_enter Tryd.func30, Tryd.ntmps30
  go_wp2_with fail
  rw [← HW.out]
  refine HX.out.mono ?_
  rintro e w1 ⟨rfl, hb1⟩
  have HB1 := Lib.hid (HB.out.trans (hb1.mono HB.out.size))
  have HBI1 := Lib.hid (HBI.out.below hb1 HBI.out.lt)
  clear hb1
  have j0 := HBI1.out.cell 0
  have j1 := HBI1.out.cell 1
  have j2 := HBI1.out.cell 2
  have j3 := HBI1.out.cell 3
  simp only [List.getElem?_toArray, List.getElem?_cons_zero, List.getElem?_cons_succ] at j0 j1 j2 j3
  cases x with
  | false =>
    have hs2 : s.toList = [] := by rw [hs]
    have he : s.toList.isEmpty = true := by rw [hs2]; rfl
    clear hs
    go_wp2_with fail
    go_ret
    exact ⟨rfl, HB1.out⟩
  | true =>
    have hs2 : ¬ s.toList = [] := by rw [hs]; decide
    have he : s.toList.isEmpty = false := by
      cases h : s.toList with
      | nil => exact (hs2 h).elim
      | cons y ys => rfl
    clear hs
    go_wp2_with fail
    refine (HA.out w1).mono ?_
    rintro e w2 ⟨rfl, rfl⟩
    cases xa with
    | false =>
      go_wp2_with fail
      go_ret
      exact ⟨rfl, HB1.out⟩
    | true =>
      go_wp2_with fail
      refine (HBB.out w1).mono ?_
      rintro e w2 ⟨rfl, rfl⟩
      cases xb with
      | false =>
        go_wp2_with fail
        go_ret
        exact ⟨rfl, HB1.out⟩
      | true =>
        go_wp2_with fail
        refine (HC.out w1).mono ?_
        rintro e w2 ⟨rfl, rfl⟩
        go_wp2_with fail
        go_ret
        exact ⟨rfl, HB1.out⟩
/-- A block of the call's own ahead of a contract. -/
theorem notfits_any (i : Ins) (w : World) (hT : Tab w) : Calls Tryd.prog 29 #[.agg #[.int .i64 i.op, .int .i64 i.a, .int .i64 i.b, .int .i64 i.c, .int .i64 i.n]] w fun e w' => e = .returned (.bool (!fitsI i)) ∧ Below w.heap.size w w' := by
  have hW : ∃ W : World, Hid (W = w.alloc (.cells #[.int .i64 i.op, .int .i64 i.a, .int .i64 i.b, .int .i64 i.c, .int .i64 i.n] 33)) := ⟨_, rfl⟩
  obtain ⟨W, HW⟩ := hW
  have HT := Lib.hid (show Tab W by rw [HW.out]; exact hT.alloc _)
  have HB := Lib.hid (show Below w.heap.size w W by rw [HW.out]; exact (Below.refl _ _).alloc (Nat.le_refl _) _)
  have HX := Lib.hid (fits_any i W HT.out)
  generalize fitsI i = x at *
  obtain ⟨op, a, b, c, n⟩ := i
  simp only at HW HX ⊢
  clear hT
  go_enter Tryd.func29, Tryd.ntmps29
  go_wp2_with fail
  rw [← HW.out]
  refine HX.out.mono ?_
  rintro e w1 ⟨rfl, hb1⟩
  have HB1 := Lib.hid (HB.out.trans (hb1.mono HB.out.size))
  clear hb1
  go_wp2_with fail
  go_ret
  exact ⟨rfl, HB1.out⟩
end Go.Proofs.YthcbceaeobnmgaaDoor

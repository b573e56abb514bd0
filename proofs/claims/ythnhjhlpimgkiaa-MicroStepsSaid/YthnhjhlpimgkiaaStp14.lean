/-
  Chapter 14: Step, once for each access that may come (printed by wip/genstp.py).
-/
import Derived.Test.YthnhjhlpimgkiaaPuc14
namespace Go.Proofs.Ythnhjhlpimgkiaa
open Go.RowKit
theorem M14.stepped {w : World} {gt gr gc gl kc size cnt : Nat} {ex : List Value} {xs : List Int} {T : Tk} (M : M14 w gt gr gc gl kc ex size xs cnt T) (h : T.steps < 899999) :
    M14 (w.setCell ⟨gt, 9, none⟩ (.int .i64 ((T.steps : Int) + 1))) gt gr gc gl kc ex size xs cnt { T with steps := T.steps + 1 } :=
  M.setT 9 _ (by simp [Tk.cells]) ⟨by show T.steps + 1 < _; omega, M.ok.2⟩
theorem mstep_done {w : World} {gt gr : Nat} {T : Tk} (h : Blk w gt 64 (T.cells gr)) (hd : T.d = none) : Calls Try.prog 13 #[.pointer (some ⟨gt, 0, none⟩)] w fun e w' => e = .returned (.bool false) ∧ w = w' := by
  have HD := Lib.hid (mdone_any h)
  rw [hd] at HD
  clear h
  go_enter Try.func13, Try.ntmps13
  go_wp2_with (go_at_call 10; refine HD.out.mono ?_; rintro e w1 ⟨rfl, rfl⟩)
  go_ret
  exact ⟨rfl, rfl⟩
theorem mstep_nil (w : World) : Calls Try.prog 13 #[.pointer none] w fun e w' => e = .returned (.bool false) ∧ w = w' := by
  have HD := Lib.hid (mdone_nil w)
  go_enter Try.func13, Try.ntmps13
  go_wp2_with (go_at_call 10; refine HD.out.mono ?_; rintro e w1 ⟨rfl, rfl⟩)
  go_ret
  exact ⟨rfl, rfl⟩
theorem mstep_putLoad {w : World} {gt gr : Nat} {T : Tk} (h : Blk w gt 64 (T.cells gr)) (hd : T.d = some 28) (hs : T.steps < 900000) {R : World → Prop}
    (hb : Calls Try.prog 28 #[.pointer (some ⟨gt, 0, none⟩)] (w.setCell ⟨gt, 9, none⟩ (.int .i64 ((T.steps : Int) + 1))) fun e w' => e = .returned (.tuple #[]) ∧ R w') :
    Calls Try.prog 13 #[.pointer (some ⟨gt, 0, none⟩)] w fun e w' => e = .returned (.bool true) ∧ R w' := by
  have HD := Lib.hid (mdone_any h)
  obtain ⟨-, q1, -, -, -, -, -, -, -, q9⟩ := ten_ h
  have f9 := h.frozen 9
  rw [hd] at HD q1
  simp only [doV] at q1
  have HB := Lib.hid hb
  clear h hb
  go_enter Try.func13, Try.ntmps13
  go_wp2_with (first | (go_at_call 10; refine HD.out.mono ?_; rintro e w1 ⟨rfl, rfl⟩) | (go_at_call 28; refine HB.out.mono ?_; rintro e w1 ⟨rfl, hR⟩))
  go_ret
  exact ⟨rfl, hR⟩
theorem mstep_putNext {w : World} {gt gr : Nat} {T : Tk} (h : Blk w gt 64 (T.cells gr)) (hd : T.d = some 43) (hs : T.steps < 900000) {R : World → Prop}
    (hb : Calls Try.prog 43 #[.pointer (some ⟨gt, 0, none⟩)] (w.setCell ⟨gt, 9, none⟩ (.int .i64 ((T.steps : Int) + 1))) fun e w' => e = .returned (.tuple #[]) ∧ R w') :
    Calls Try.prog 13 #[.pointer (some ⟨gt, 0, none⟩)] w fun e w' => e = .returned (.bool true) ∧ R w' := by
  have HD := Lib.hid (mdone_any h)
  obtain ⟨-, q1, -, -, -, -, -, -, -, q9⟩ := ten_ h
  have f9 := h.frozen 9
  rw [hd] at HD q1
  simp only [doV] at q1
  have HB := Lib.hid hb
  clear h hb
  go_enter Try.func13, Try.ntmps13
  go_wp2_with (first | (go_at_call 10; refine HD.out.mono ?_; rintro e w1 ⟨rfl, rfl⟩) | (go_at_call 43; refine HB.out.mono ?_; rintro e w1 ⟨rfl, hR⟩))
  go_ret
  exact ⟨rfl, hR⟩
theorem mstep_putHead {w : World} {gt gr : Nat} {T : Tk} (h : Blk w gt 64 (T.cells gr)) (hd : T.d = some 26) (hs : T.steps < 900000) {R : World → Prop}
    (hb : Calls Try.prog 26 #[.pointer (some ⟨gt, 0, none⟩)] (w.setCell ⟨gt, 9, none⟩ (.int .i64 ((T.steps : Int) + 1))) fun e w' => e = .returned (.tuple #[]) ∧ R w') :
    Calls Try.prog 13 #[.pointer (some ⟨gt, 0, none⟩)] w fun e w' => e = .returned (.bool true) ∧ R w' := by
  have HD := Lib.hid (mdone_any h)
  obtain ⟨-, q1, -, -, -, -, -, -, -, q9⟩ := ten_ h
  have f9 := h.frozen 9
  rw [hd] at HD q1
  simp only [doV] at q1
  have HB := Lib.hid hb
  clear h hb
  go_enter Try.func13, Try.ntmps13
  go_wp2_with (first | (go_at_call 10; refine HD.out.mono ?_; rintro e w1 ⟨rfl, rfl⟩) | (go_at_call 26; refine HB.out.mono ?_; rintro e w1 ⟨rfl, hR⟩))
  go_ret
  exact ⟨rfl, hR⟩
theorem mstep_putTail {w : World} {gt gr : Nat} {T : Tk} (h : Blk w gt 64 (T.cells gr)) (hd : T.d = some 42) (hs : T.steps < 900000) {R : World → Prop}
    (hb : Calls Try.prog 42 #[.pointer (some ⟨gt, 0, none⟩)] (w.setCell ⟨gt, 9, none⟩ (.int .i64 ((T.steps : Int) + 1))) fun e w' => e = .returned (.tuple #[]) ∧ R w') :
    Calls Try.prog 13 #[.pointer (some ⟨gt, 0, none⟩)] w fun e w' => e = .returned (.bool true) ∧ R w' := by
  have HD := Lib.hid (mdone_any h)
  obtain ⟨-, q1, -, -, -, -, -, -, -, q9⟩ := ten_ h
  have f9 := h.frozen 9
  rw [hd] at HD q1
  simp only [doV] at q1
  have HB := Lib.hid hb
  clear h hb
  go_enter Try.func13, Try.ntmps13
  go_wp2_with (first | (go_at_call 10; refine HD.out.mono ?_; rintro e w1 ⟨rfl, rfl⟩) | (go_at_call 42; refine HB.out.mono ?_; rintro e w1 ⟨rfl, hR⟩))
  go_ret
  exact ⟨rfl, hR⟩
theorem mstep_putCell {w : World} {gt gr : Nat} {T : Tk} (h : Blk w gt 64 (T.cells gr)) (hd : T.d = some 55) (hs : T.steps < 900000) {R : World → Prop}
    (hb : Calls Try.prog 55 #[.pointer (some ⟨gt, 0, none⟩)] (w.setCell ⟨gt, 9, none⟩ (.int .i64 ((T.steps : Int) + 1))) fun e w' => e = .returned (.tuple #[]) ∧ R w') :
    Calls Try.prog 13 #[.pointer (some ⟨gt, 0, none⟩)] w fun e w' => e = .returned (.bool true) ∧ R w' := by
  have HD := Lib.hid (mdone_any h)
  obtain ⟨-, q1, -, -, -, -, -, -, -, q9⟩ := ten_ h
  have f9 := h.frozen 9
  rw [hd] at HD q1
  simp only [doV] at q1
  have HB := Lib.hid hb
  clear h hb
  go_enter Try.func13, Try.ntmps13
  go_wp2_with (first | (go_at_call 10; refine HD.out.mono ?_; rintro e w1 ⟨rfl, rfl⟩) | (go_at_call 55; refine HB.out.mono ?_; rintro e w1 ⟨rfl, hR⟩))
  go_ret
  exact ⟨rfl, hR⟩
theorem mstep_putDone {w : World} {gt gr : Nat} {T : Tk} (h : Blk w gt 64 (T.cells gr)) (hd : T.d = some 63) (hs : T.steps < 900000) {R : World → Prop}
    (hb : Calls Try.prog 63 #[.pointer (some ⟨gt, 0, none⟩)] (w.setCell ⟨gt, 9, none⟩ (.int .i64 ((T.steps : Int) + 1))) fun e w' => e = .returned (.tuple #[]) ∧ R w') :
    Calls Try.prog 13 #[.pointer (some ⟨gt, 0, none⟩)] w fun e w' => e = .returned (.bool true) ∧ R w' := by
  have HD := Lib.hid (mdone_any h)
  obtain ⟨-, q1, -, -, -, -, -, -, -, q9⟩ := ten_ h
  have f9 := h.frozen 9
  rw [hd] at HD q1
  simp only [doV] at q1
  have HB := Lib.hid hb
  clear h hb
  go_enter Try.func13, Try.ntmps13
  go_wp2_with (first | (go_at_call 10; refine HD.out.mono ?_; rintro e w1 ⟨rfl, rfl⟩) | (go_at_call 63; refine HB.out.mono ?_; rintro e w1 ⟨rfl, hR⟩))
  go_ret
  exact ⟨rfl, hR⟩
theorem mstep_spill {w : World} {gt gr : Nat} {T : Tk} (h : Blk w gt 64 (T.cells gr)) (hd : T.d = some 56) (hs : T.steps < 900000) {R : World → Prop}
    (hb : Calls Try.prog 56 #[.pointer (some ⟨gt, 0, none⟩)] (w.setCell ⟨gt, 9, none⟩ (.int .i64 ((T.steps : Int) + 1))) fun e w' => e = .returned (.tuple #[]) ∧ R w') :
    Calls Try.prog 13 #[.pointer (some ⟨gt, 0, none⟩)] w fun e w' => e = .returned (.bool true) ∧ R w' := by
  have HD := Lib.hid (mdone_any h)
  obtain ⟨-, q1, -, -, -, -, -, -, -, q9⟩ := ten_ h
  have f9 := h.frozen 9
  rw [hd] at HD q1
  simp only [doV] at q1
  have HB := Lib.hid hb
  clear h hb
  go_enter Try.func13, Try.ntmps13
  go_wp2_with (first | (go_at_call 10; refine HD.out.mono ?_; rintro e w1 ⟨rfl, rfl⟩) | (go_at_call 56; refine HB.out.mono ?_; rintro e w1 ⟨rfl, hR⟩))
  go_ret
  exact ⟨rfl, hR⟩
theorem mstep_spillDone {w : World} {gt gr : Nat} {T : Tk} (h : Blk w gt 64 (T.cells gr)) (hd : T.d = some 65) (hs : T.steps < 900000) {R : World → Prop}
    (hb : Calls Try.prog 65 #[.pointer (some ⟨gt, 0, none⟩)] (w.setCell ⟨gt, 9, none⟩ (.int .i64 ((T.steps : Int) + 1))) fun e w' => e = .returned (.tuple #[]) ∧ R w') :
    Calls Try.prog 13 #[.pointer (some ⟨gt, 0, none⟩)] w fun e w' => e = .returned (.bool true) ∧ R w' := by
  have HD := Lib.hid (mdone_any h)
  obtain ⟨-, q1, -, -, -, -, -, -, -, q9⟩ := ten_ h
  have f9 := h.frozen 9
  rw [hd] at HD q1
  simp only [doV] at q1
  have HB := Lib.hid hb
  clear h hb
  go_enter Try.func13, Try.ntmps13
  go_wp2_with (first | (go_at_call 10; refine HD.out.mono ?_; rintro e w1 ⟨rfl, rfl⟩) | (go_at_call 65; refine HB.out.mono ?_; rintro e w1 ⟨rfl, hR⟩))
  go_ret
  exact ⟨rfl, hR⟩
theorem mstep_getLoad {w : World} {gt gr : Nat} {T : Tk} (h : Blk w gt 64 (T.cells gr)) (hd : T.d = some 29) (hs : T.steps < 900000) {R : World → Prop}
    (hb : Calls Try.prog 29 #[.pointer (some ⟨gt, 0, none⟩)] (w.setCell ⟨gt, 9, none⟩ (.int .i64 ((T.steps : Int) + 1))) fun e w' => e = .returned (.tuple #[]) ∧ R w') :
    Calls Try.prog 13 #[.pointer (some ⟨gt, 0, none⟩)] w fun e w' => e = .returned (.bool true) ∧ R w' := by
  have HD := Lib.hid (mdone_any h)
  obtain ⟨-, q1, -, -, -, -, -, -, -, q9⟩ := ten_ h
  have f9 := h.frozen 9
  rw [hd] at HD q1
  simp only [doV] at q1
  have HB := Lib.hid hb
  clear h hb
  go_enter Try.func13, Try.ntmps13
  go_wp2_with (first | (go_at_call 10; refine HD.out.mono ?_; rintro e w1 ⟨rfl, rfl⟩) | (go_at_call 29; refine HB.out.mono ?_; rintro e w1 ⟨rfl, hR⟩))
  go_ret
  exact ⟨rfl, hR⟩
theorem mstep_getNext {w : World} {gt gr : Nat} {T : Tk} (h : Blk w gt 64 (T.cells gr)) (hd : T.d = some 44) (hs : T.steps < 900000) {R : World → Prop}
    (hb : Calls Try.prog 44 #[.pointer (some ⟨gt, 0, none⟩)] (w.setCell ⟨gt, 9, none⟩ (.int .i64 ((T.steps : Int) + 1))) fun e w' => e = .returned (.tuple #[]) ∧ R w') :
    Calls Try.prog 13 #[.pointer (some ⟨gt, 0, none⟩)] w fun e w' => e = .returned (.bool true) ∧ R w' := by
  have HD := Lib.hid (mdone_any h)
  obtain ⟨-, q1, -, -, -, -, -, -, -, q9⟩ := ten_ h
  have f9 := h.frozen 9
  rw [hd] at HD q1
  simp only [doV] at q1
  have HB := Lib.hid hb
  clear h hb
  go_enter Try.func13, Try.ntmps13
  go_wp2_with (first | (go_at_call 10; refine HD.out.mono ?_; rintro e w1 ⟨rfl, rfl⟩) | (go_at_call 44; refine HB.out.mono ?_; rintro e w1 ⟨rfl, hR⟩))
  go_ret
  exact ⟨rfl, hR⟩
theorem mstep_getHead {w : World} {gt gr : Nat} {T : Tk} (h : Blk w gt 64 (T.cells gr)) (hd : T.d = some 45) (hs : T.steps < 900000) {R : World → Prop}
    (hb : Calls Try.prog 45 #[.pointer (some ⟨gt, 0, none⟩)] (w.setCell ⟨gt, 9, none⟩ (.int .i64 ((T.steps : Int) + 1))) fun e w' => e = .returned (.tuple #[]) ∧ R w') :
    Calls Try.prog 13 #[.pointer (some ⟨gt, 0, none⟩)] w fun e w' => e = .returned (.bool true) ∧ R w' := by
  have HD := Lib.hid (mdone_any h)
  obtain ⟨-, q1, -, -, -, -, -, -, -, q9⟩ := ten_ h
  have f9 := h.frozen 9
  rw [hd] at HD q1
  simp only [doV] at q1
  have HB := Lib.hid hb
  clear h hb
  go_enter Try.func13, Try.ntmps13
  go_wp2_with (first | (go_at_call 10; refine HD.out.mono ?_; rintro e w1 ⟨rfl, rfl⟩) | (go_at_call 45; refine HB.out.mono ?_; rintro e w1 ⟨rfl, hR⟩))
  go_ret
  exact ⟨rfl, hR⟩
theorem mstep_getTail {w : World} {gt gr : Nat} {T : Tk} (h : Blk w gt 64 (T.cells gr)) (hd : T.d = some 58) (hs : T.steps < 900000) {R : World → Prop}
    (hb : Calls Try.prog 58 #[.pointer (some ⟨gt, 0, none⟩)] (w.setCell ⟨gt, 9, none⟩ (.int .i64 ((T.steps : Int) + 1))) fun e w' => e = .returned (.tuple #[]) ∧ R w') :
    Calls Try.prog 13 #[.pointer (some ⟨gt, 0, none⟩)] w fun e w' => e = .returned (.bool true) ∧ R w' := by
  have HD := Lib.hid (mdone_any h)
  obtain ⟨-, q1, -, -, -, -, -, -, -, q9⟩ := ten_ h
  have f9 := h.frozen 9
  rw [hd] at HD q1
  simp only [doV] at q1
  have HB := Lib.hid hb
  clear h hb
  go_enter Try.func13, Try.ntmps13
  go_wp2_with (first | (go_at_call 10; refine HD.out.mono ?_; rintro e w1 ⟨rfl, rfl⟩) | (go_at_call 58; refine HB.out.mono ?_; rintro e w1 ⟨rfl, hR⟩))
  go_ret
  exact ⟨rfl, hR⟩
theorem mstep_getCell {w : World} {gt gr : Nat} {T : Tk} (h : Blk w gt 64 (T.cells gr)) (hd : T.d = some 67) (hs : T.steps < 900000) {R : World → Prop}
    (hb : Calls Try.prog 67 #[.pointer (some ⟨gt, 0, none⟩)] (w.setCell ⟨gt, 9, none⟩ (.int .i64 ((T.steps : Int) + 1))) fun e w' => e = .returned (.tuple #[]) ∧ R w') :
    Calls Try.prog 13 #[.pointer (some ⟨gt, 0, none⟩)] w fun e w' => e = .returned (.bool true) ∧ R w' := by
  have HD := Lib.hid (mdone_any h)
  obtain ⟨-, q1, -, -, -, -, -, -, -, q9⟩ := ten_ h
  have f9 := h.frozen 9
  rw [hd] at HD q1
  simp only [doV] at q1
  have HB := Lib.hid hb
  clear h hb
  go_enter Try.func13, Try.ntmps13
  go_wp2_with (first | (go_at_call 10; refine HD.out.mono ?_; rintro e w1 ⟨rfl, rfl⟩) | (go_at_call 67; refine HB.out.mono ?_; rintro e w1 ⟨rfl, hR⟩))
  go_ret
  exact ⟨rfl, hR⟩
theorem mstep_getDone {w : World} {gt gr : Nat} {T : Tk} (h : Blk w gt 64 (T.cells gr)) (hd : T.d = some 71) (hs : T.steps < 900000) {R : World → Prop}
    (hb : Calls Try.prog 71 #[.pointer (some ⟨gt, 0, none⟩)] (w.setCell ⟨gt, 9, none⟩ (.int .i64 ((T.steps : Int) + 1))) fun e w' => e = .returned (.tuple #[]) ∧ R w') :
    Calls Try.prog 13 #[.pointer (some ⟨gt, 0, none⟩)] w fun e w' => e = .returned (.bool true) ∧ R w' := by
  have HD := Lib.hid (mdone_any h)
  obtain ⟨-, q1, -, -, -, -, -, -, -, q9⟩ := ten_ h
  have f9 := h.frozen 9
  rw [hd] at HD q1
  simp only [doV] at q1
  have HB := Lib.hid hb
  clear h hb
  go_enter Try.func13, Try.ntmps13
  go_wp2_with (first | (go_at_call 10; refine HD.out.mono ?_; rintro e w1 ⟨rfl, rfl⟩) | (go_at_call 71; refine HB.out.mono ?_; rintro e w1 ⟨rfl, hR⟩))
  go_ret
  exact ⟨rfl, hR⟩
theorem mstep_grabHead {w : World} {gt gr : Nat} {T : Tk} (h : Blk w gt 64 (T.cells gr)) (hd : T.d = some 30) (hs : T.steps < 900000) {R : World → Prop}
    (hb : Calls Try.prog 30 #[.pointer (some ⟨gt, 0, none⟩)] (w.setCell ⟨gt, 9, none⟩ (.int .i64 ((T.steps : Int) + 1))) fun e w' => e = .returned (.tuple #[]) ∧ R w') :
    Calls Try.prog 13 #[.pointer (some ⟨gt, 0, none⟩)] w fun e w' => e = .returned (.bool true) ∧ R w' := by
  have HD := Lib.hid (mdone_any h)
  obtain ⟨-, q1, -, -, -, -, -, -, -, q9⟩ := ten_ h
  have f9 := h.frozen 9
  rw [hd] at HD q1
  simp only [doV] at q1
  have HB := Lib.hid hb
  clear h hb
  go_enter Try.func13, Try.ntmps13
  go_wp2_with (first | (go_at_call 10; refine HD.out.mono ?_; rintro e w1 ⟨rfl, rfl⟩) | (go_at_call 30; refine HB.out.mono ?_; rintro e w1 ⟨rfl, hR⟩))
  go_ret
  exact ⟨rfl, hR⟩
theorem mstep_grabTail {w : World} {gt gr : Nat} {T : Tk} (h : Blk w gt 64 (T.cells gr)) (hd : T.d = some 46) (hs : T.steps < 900000) {R : World → Prop}
    (hb : Calls Try.prog 46 #[.pointer (some ⟨gt, 0, none⟩)] (w.setCell ⟨gt, 9, none⟩ (.int .i64 ((T.steps : Int) + 1))) fun e w' => e = .returned (.tuple #[]) ∧ R w') :
    Calls Try.prog 13 #[.pointer (some ⟨gt, 0, none⟩)] w fun e w' => e = .returned (.bool true) ∧ R w' := by
  have HD := Lib.hid (mdone_any h)
  obtain ⟨-, q1, -, -, -, -, -, -, -, q9⟩ := ten_ h
  have f9 := h.frozen 9
  rw [hd] at HD q1
  simp only [doV] at q1
  have HB := Lib.hid hb
  clear h hb
  go_enter Try.func13, Try.ntmps13
  go_wp2_with (first | (go_at_call 10; refine HD.out.mono ?_; rintro e w1 ⟨rfl, rfl⟩) | (go_at_call 46; refine HB.out.mono ?_; rintro e w1 ⟨rfl, hR⟩))
  go_ret
  exact ⟨rfl, hR⟩
theorem mstep_grabLoad {w : World} {gt gr : Nat} {T : Tk} (h : Blk w gt 64 (T.cells gr)) (hd : T.d = some 59) (hs : T.steps < 900000) {R : World → Prop}
    (hb : Calls Try.prog 59 #[.pointer (some ⟨gt, 0, none⟩)] (w.setCell ⟨gt, 9, none⟩ (.int .i64 ((T.steps : Int) + 1))) fun e w' => e = .returned (.tuple #[]) ∧ R w') :
    Calls Try.prog 13 #[.pointer (some ⟨gt, 0, none⟩)] w fun e w' => e = .returned (.bool true) ∧ R w' := by
  have HD := Lib.hid (mdone_any h)
  obtain ⟨-, q1, -, -, -, -, -, -, -, q9⟩ := ten_ h
  have f9 := h.frozen 9
  rw [hd] at HD q1
  simp only [doV] at q1
  have HB := Lib.hid hb
  clear h hb
  go_enter Try.func13, Try.ntmps13
  go_wp2_with (first | (go_at_call 10; refine HD.out.mono ?_; rintro e w1 ⟨rfl, rfl⟩) | (go_at_call 59; refine HB.out.mono ?_; rintro e w1 ⟨rfl, hR⟩))
  go_ret
  exact ⟨rfl, hR⟩
theorem mstep_grabNext {w : World} {gt gr : Nat} {T : Tk} (h : Blk w gt 64 (T.cells gr)) (hd : T.d = some 68) (hs : T.steps < 900000) {R : World → Prop}
    (hb : Calls Try.prog 68 #[.pointer (some ⟨gt, 0, none⟩)] (w.setCell ⟨gt, 9, none⟩ (.int .i64 ((T.steps : Int) + 1))) fun e w' => e = .returned (.tuple #[]) ∧ R w') :
    Calls Try.prog 13 #[.pointer (some ⟨gt, 0, none⟩)] w fun e w' => e = .returned (.bool true) ∧ R w' := by
  have HD := Lib.hid (mdone_any h)
  obtain ⟨-, q1, -, -, -, -, -, -, -, q9⟩ := ten_ h
  have f9 := h.frozen 9
  rw [hd] at HD q1
  simp only [doV] at q1
  have HB := Lib.hid hb
  clear h hb
  go_enter Try.func13, Try.ntmps13
  go_wp2_with (first | (go_at_call 10; refine HD.out.mono ?_; rintro e w1 ⟨rfl, rfl⟩) | (go_at_call 68; refine HB.out.mono ?_; rintro e w1 ⟨rfl, hR⟩))
  go_ret
  exact ⟨rfl, hR⟩
theorem mstep_grabCells {w : World} {gt gr : Nat} {T : Tk} (h : Blk w gt 64 (T.cells gr)) (hd : T.d = some 60) (hs : T.steps < 900000) {R : World → Prop}
    (hb : Calls Try.prog 60 #[.pointer (some ⟨gt, 0, none⟩)] (w.setCell ⟨gt, 9, none⟩ (.int .i64 ((T.steps : Int) + 1))) fun e w' => e = .returned (.tuple #[]) ∧ R w') :
    Calls Try.prog 13 #[.pointer (some ⟨gt, 0, none⟩)] w fun e w' => e = .returned (.bool true) ∧ R w' := by
  have HD := Lib.hid (mdone_any h)
  obtain ⟨-, q1, -, -, -, -, -, -, -, q9⟩ := ten_ h
  have f9 := h.frozen 9
  rw [hd] at HD q1
  simp only [doV] at q1
  have HB := Lib.hid hb
  clear h hb
  go_enter Try.func13, Try.ntmps13
  go_wp2_with (first | (go_at_call 10; refine HD.out.mono ?_; rintro e w1 ⟨rfl, rfl⟩) | (go_at_call 60; refine HB.out.mono ?_; rintro e w1 ⟨rfl, hR⟩))
  go_ret
  exact ⟨rfl, hR⟩
theorem mstep_grabDone {w : World} {gt gr : Nat} {T : Tk} (h : Blk w gt 64 (T.cells gr)) (hd : T.d = some 69) (hs : T.steps < 900000) {R : World → Prop}
    (hb : Calls Try.prog 69 #[.pointer (some ⟨gt, 0, none⟩)] (w.setCell ⟨gt, 9, none⟩ (.int .i64 ((T.steps : Int) + 1))) fun e w' => e = .returned (.tuple #[]) ∧ R w') :
    Calls Try.prog 13 #[.pointer (some ⟨gt, 0, none⟩)] w fun e w' => e = .returned (.bool true) ∧ R w' := by
  have HD := Lib.hid (mdone_any h)
  obtain ⟨-, q1, -, -, -, -, -, -, -, q9⟩ := ten_ h
  have f9 := h.frozen 9
  rw [hd] at HD q1
  simp only [doV] at q1
  have HB := Lib.hid hb
  clear h hb
  go_enter Try.func13, Try.ntmps13
  go_wp2_with (first | (go_at_call 10; refine HD.out.mono ?_; rintro e w1 ⟨rfl, rfl⟩) | (go_at_call 69; refine HB.out.mono ?_; rintro e w1 ⟨rfl, hR⟩))
  go_ret
  exact ⟨rfl, hR⟩
end Go.Proofs.Ythnhjhlpimgkiaa

/-
  Chapter 14: Put, Get, Grab, and Got where nothing was got.
-/
import Derived.Test.YthnhjhlpimgkiaaPuc14
namespace Go.Proofs.Ythnhjhlpimgkiaa
open Go.RowKit
/-- A ring in gr and its cells. -/
structure B14 (w : World) (gr gc gl kc : Nat) (ex : List Value) (size : Nat) (xs : List Int) (cnt : Nat) : Prop where
  cells : CellsIs w gc gl kc ex xs cnt
  ring : Blk w gr 59 #[.pointer (some ⟨gc, 0, none⟩), .int .i64 size]
  n2 : gr ≠ gc ∧ gr ≠ gl
  fits : (size = 2 ∨ size = 4 ∨ size = 8) ∧ size + 3 ≤ xs.length
  few : cnt < 900000
/-- A task at its first access. -/
def tk0 (d : Option Nat) (g : Int) : Tk := ⟨d, g, 0, 0, 0, 0, .slice none 0 0, .slice none 0 0, 0⟩
theorem B14.task {w : World} {gr gc gl kc : Nat} {ex : List Value} {size : Nat} {xs : List Int} {cnt : Nat} (h : B14 w gr gc gl kc ex size xs cnt) (d : Option Nat) (g : Int) :
    M14 (w.alloc (.cells ((tk0 d g).cells gr) 64)) w.heap.size gr gc gl kc ex size xs cnt (tk0 d g) := by
  have hb : Below w.heap.size w (w.alloc (.cells ((tk0 d g).cells gr) 64)) := (Below.refl _ w).alloc (Nat.le_refl _) _
  have h1 := h.cells.head.lt
  have h2 := h.cells.row.lt
  have h3 := h.ring.lt
  exact ⟨h.cells.below hb, h.ring.below hb h3, Blk.new _ _ _, ⟨by omega, by omega, by omega⟩, h.n2, h.fits, h.few, by unfold Tk.Ok tk0; simp⟩
theorem put_nil (g : Int) (f : Bool) (w : World) : Calls Try.prog 9 #[.pointer none, .int .i64 g, .bool f] w fun e w' => e = .returned (.pointer none) ∧ w = w' := by
  go_enter Try.func9, Try.ntmps9
  go_wp2_with (go_at_call 25; refine (begin_nil _ _).mono ?_; rintro e w1 ⟨rfl, rfl⟩)
  go_ret
  exact ⟨rfl, rfl⟩
theorem get_nil (w : World) : Calls Try.prog 11 #[.pointer none] w fun e w' => e = .returned (.pointer none) ∧ w = w' := by
  go_enter Try.func11, Try.ntmps11
  go_wp2_with (go_at_call 25; refine (begin_nil _ _).mono ?_; rintro e w1 ⟨rfl, rfl⟩)
  go_ret
  exact ⟨rfl, rfl⟩
theorem grab_nil (w : World) : Calls Try.prog 12 #[.pointer none] w fun e w' => e = .returned (.pointer none) ∧ w = w' := by
  go_enter Try.func12, Try.ntmps12
  go_wp2_with (go_at_call 25; refine (begin_nil _ _).mono ?_; rintro e w1 ⟨rfl, rfl⟩)
  go_ret
  exact ⟨rfl, rfl⟩
/-- What Put starts. -/
def putD (g : Int) (f : Bool) : Option Nat := if g < 1 then none else if f then some 28 else some 26
theorem put_any {w : World} {gr gc gl kc : Nat} {ex : List Value} {size : Nat} {xs : List Int} {cnt : Nat} (h : B14 w gr gc gl kc ex size xs cnt) (g : Int) (f : Bool) :
    Calls Try.prog 9 #[.pointer (some ⟨gr, 0, none⟩), .int .i64 g, .bool f] w fun e w' => e = .returned (.pointer (some ⟨w.heap.size, 0, none⟩)) ∧ M14 w' w.heap.size gr gc gl kc ex size xs cnt (tk0 (putD g f) g) ∧ Below w.heap.size w w' := by
  have HB := Lib.hid (begin_any ⟨gr, 0, none⟩ 26 w)
  obtain ⟨wa, HW⟩ : ∃ wa, Hid (wa = w.alloc (.cells ((tk0 (some 26) 0).cells gr) 64)) := ⟨_, Lib.hid rfl⟩
  have HM := Lib.hid (show M14 wa w.heap.size gr gc gl kc ex size xs cnt (tk0 (some 26) 0) by rw [HW.out]; exact h.task _ _)
  have HV := Lib.hid (show Below w.heap.size w wa by rw [HW.out]; exact (Below.refl _ w).alloc (Nat.le_refl _) _)
  obtain ⟨m, Hm⟩ : ∃ m, Hid (m = w.heap.size) := ⟨_, Lib.hid rfl⟩
  rw [← Hm.out] at HM HV HB ⊢
  clear h
  by_cases hg : g < 1
  · have hd : putD g f = none := by unfold putD; rw [if_pos hg]
    rw [hd]
    have HE := Lib.hid (mend_nil HM.out none 0 0)
    go_enter Try.func9, Try.ntmps9
    go_wp2_with (first | (go_at_call 25; refine HB.out.mono ?_; rintro e w1 ⟨rfl, h1⟩; rw [show w1 = wa from h1.trans HW.out.symm]; clear h1) | (go_at_call 27; refine HE.out.mono ?_; rintro e w2 ⟨rfl, hM2, hV2⟩; have HM2 := Lib.hid hM2; have HV2 := Lib.hid hV2; obtain ⟨-, -, k2, -⟩ := ten_ HM2.out.task; have f2 := HM2.out.task.frozen 2; clear hM2 hV2))
    go_ret
    refine ⟨rfl, ?_, ?_⟩
    · exact HM2.out.setT 2 _ rfl HM2.out.ok
    · exact ((HV.out.trans (HV2.out.low (by have := HM.out.task.lt; omega) (by simp))).trans (Mv.low ((Mv.refl [m] _).set ⟨m, 2, none⟩ (.int .i64 g) (by simp)) (by have := HM2.out.task.lt; omega) (by simp)))
  · obtain ⟨-, k1, k2, -⟩ := ten_ HM.out.task
    have f1 := HM.out.task.frozen 1
    have f2 := HM.out.task.frozen 2
    simp only [doV, tk0] at k1 k2
    cases f with
    | true =>
      have hd : putD g true = some 28 := by unfold putD; rw [if_neg hg, if_pos rfl]
      rw [hd]
      go_enter Try.func9, Try.ntmps9
      go_wp2_with (go_at_call 25; refine HB.out.mono ?_; rintro e w1 ⟨rfl, h1⟩; rw [show w1 = wa from h1.trans HW.out.symm]; clear h1)
      go_ret
      have a1 := HM.out.setT (T' := tk0 (some 28) 0) 1 (doV (some 28)) rfl HM.out.ok
      refine ⟨rfl, a1.setT 2 _ rfl a1.ok, HV.out.trans (Mv.low (((Mv.refl [m] _).set _ _ (by simp)).set _ _ (by simp)) (by have := HM.out.task.lt; omega) (by simp))⟩
    | false =>
      have hd : putD g false = some 26 := by unfold putD; rw [if_neg hg, if_neg (by simp)]
      rw [hd]
      go_enter Try.func9, Try.ntmps9
      go_wp2_with (go_at_call 25; refine HB.out.mono ?_; rintro e w1 ⟨rfl, h1⟩; rw [show w1 = wa from h1.trans HW.out.symm]; clear h1)
      go_ret
      refine ⟨rfl, HM.out.setT 2 _ rfl HM.out.ok, HV.out.trans (Mv.low ((Mv.refl [m] _).set _ _ (by simp)) (by have := HM.out.task.lt; omega) (by simp))⟩
theorem get_any {w : World} {gr gc gl kc : Nat} {ex : List Value} {size : Nat} {xs : List Int} {cnt : Nat} (h : B14 w gr gc gl kc ex size xs cnt) :
    Calls Try.prog 11 #[.pointer (some ⟨gr, 0, none⟩)] w fun e w' => e = .returned (.pointer (some ⟨w.heap.size, 0, none⟩)) ∧ M14 w' w.heap.size gr gc gl kc ex size xs cnt (tk0 (some 29) 0) ∧ Below w.heap.size w w' := by
  have HB := Lib.hid (begin_any ⟨gr, 0, none⟩ 29 w)
  go_enter Try.func11, Try.ntmps11
  go_wp2_with (go_at_call 25; refine HB.out.mono ?_; rintro e w1 ⟨rfl, rfl⟩)
  go_ret
  exact ⟨rfl, h.task (some 29) 0, (Below.refl _ w).alloc (Nat.le_refl _) _⟩
theorem grab_any {w : World} {gr gc gl kc : Nat} {ex : List Value} {size : Nat} {xs : List Int} {cnt : Nat} (h : B14 w gr gc gl kc ex size xs cnt) :
    Calls Try.prog 12 #[.pointer (some ⟨gr, 0, none⟩)] w fun e w' => e = .returned (.pointer (some ⟨w.heap.size, 0, none⟩)) ∧ M14 w' w.heap.size gr gc gl kc ex size xs cnt (tk0 (some 30) 0) ∧ Below w.heap.size w w' := by
  have HB := Lib.hid (begin_any ⟨gr, 0, none⟩ 30 w)
  go_enter Try.func12, Try.ntmps12
  go_wp2_with (go_at_call 25; refine HB.out.mono ?_; rintro e w1 ⟨rfl, rfl⟩)
  go_ret
  exact ⟨rfl, h.task (some 30) 0, (Below.refl _ w).alloc (Nat.le_refl _) _⟩
theorem mgot_nil (w : World) : Calls Try.prog 14 #[.pointer none] w fun e w' => e = .returned (.slice none 0 0) ∧ w = w' := by
  go_enter Try.func14, Try.ntmps14
  go_wp2
  go_ret
  exact ⟨rfl, rfl⟩
theorem clone64_nil (w : World) : Calls Try.prog 31 #[.slice none 0 0] w fun e w' => e = .returned (.slice none 0 0) ∧ w = w' := by
  have q51 : ∀ (w : World) (a : Option Addr) (n c n' c' : Nat), (binOp .eql 31 (.slice a n c) (.slice none n' c')).run Try.prog w = .ok (.bool a.isNone) w := fun w a n c n' c' => Lib.run_eql_slice_nil w _ _ a n c n' c' Try.underlying31
  go_enter Try.func31, Try.ntmps31
  go_wp2
  go_ret
  exact ⟨rfl, rfl⟩
theorem mgot_none {w : World} {gt gr : Nat} {T : Tk} (h : Blk w gt 64 (T.cells gr)) (hn : T.got = .slice none 0 0 ∨ T.d ≠ none) : Calls Try.prog 14 #[.pointer (some ⟨gt, 0, none⟩)] w fun e w' => e = .returned (.slice none 0 0) ∧ w = w' := by
  have HD := Lib.hid (mdone_any h)
  obtain ⟨q0, q1, q2, q3, q4, q5, q6, q7, q8, q9⟩ := ten_ h
  clear h q0 q1 q2 q3 q4 q5 q6 q7 q9
  obtain ⟨d, g, old, head, tail, many, buf, got, steps⟩ := T
  cases d with
  | none =>
    obtain rfl : got = .slice none 0 0 := by rcases hn with h | h; exact h; exact absurd rfl h
    simp only at q8
    clear hn
    go_enter Try.func14, Try.ntmps14
    go_wp2_with (first | (go_at_call 10; refine HD.out.mono ?_; rintro e w1 ⟨rfl, rfl⟩) | (go_at_call 31; refine (clone64_nil _).mono ?_; rintro e w1 ⟨rfl, rfl⟩))
    go_ret
    exact ⟨rfl, rfl⟩
  | some k =>
    clear hn q8
    go_enter Try.func14, Try.ntmps14
    go_wp2_with (go_at_call 10; refine HD.out.mono ?_; rintro e w1 ⟨rfl, rfl⟩)
    go_ret
    exact ⟨rfl, rfl⟩
end Go.Proofs.Ythnhjhlpimgkiaa

/-
  A task that is alone: how many accesses remain. Plain.
-/
import Derived.Test.YthnhjhlpimgkiaaPln14
namespace Go.Proofs.Ythnhjhlpimgkiaa
open Go.RowKit
/-- So many accesses remain at most. -/
def left (size : Nat) (P : Pt) : Nat :=
  match P.d with
  | none => 0
  | some .putLoad => size / 2 + 6
  | some .putNext => size / 2 + 5
  | some .putHead => size / 2 + 4
  | some .putTail => size / 2 + 3
  | some .putCell => 2
  | some .putDone => 1
  | some .spill => P.many - P.bs.length + 1
  | some .spillDone => 1
  | some .getLoad => 6
  | some .getNext => 5
  | some .getHead => 4
  | some .getTail => 3
  | some .getCell => 2
  | some .getDone => 1
  | some .grabHead => size / 2 + 4
  | some .grabTail => size / 2 + 3
  | some .grabLoad => 2
  | some .grabNext => 1
  | some .grabCells => P.many - P.bs.length + 1
  | some .grabDone => 1
/-- What was loaded still stands. -/
def Loc (size : Nat) (xs : List Int) (P : Pt) (h : Nat) : Prop :=
  match P.d with
  | some .putNext => xs.getD 2 0 = P.old
  | some .getNext => xs.getD 2 0 = P.old
  | some .grabNext => xs.getD 2 0 = P.old
  | some .putTail => P.head = h
  | some .spillDone => P.head = h
  | some .getTail => P.head = h
  | some .getCell => P.head = h
  | some .getDone => P.head = h
  | some .grabTail => P.head = h
  | some .grabDone => P.head = h
  | some .spill => P.head = h ∧ P.bs.length < P.many ∧ P.many ≤ size / 2
  | some .grabCells => P.head = h ∧ P.bs.length < P.many ∧ P.many ≤ size / 2
  | _ => True
/-- A task alone with its ring. -/
def Al (size : Nat) (xs : List Int) (P : Pt) : Prop :=
  P.d = none ∨ ((size = 2 ∨ size = 4 ∨ size = 8) ∧ ∃ h t : Nat, xs.getD 0 0 = h ∧ xs.getD 1 0 = t ∧ h < 4294967296 ∧ t < 4294967296 ∧ u ((t : Int) - h) ≤ size ∧ Loc size xs P h)
theorem getD_set (xs : List Int) (i j : Nat) (x : Int) (h : i ≠ j) : (xs.set i x).getD j 0 = xs.getD j 0 := by
  simp [List.getD, List.getElem?_set_ne h]
theorem alone_step {size : Nat} {xs : List Int} {P : Pt} (hA : Al size xs P) (a : Ac) (hd : P.d = some a) :
    Al size (acc size xs P.up a).1 (acc size xs P.up a).2 ∧ left size (acc size xs P.up a).2 < left size P := by
  rcases hA with h | ⟨hs, h, t, e0, e1, hh, ht, hg, hl⟩
  · rw [h] at hd; cases hd
  have uh : u (xs.getD 0 0) = h := by rw [e0]; exact u_of h hh
  have ut : u (xs.getD 1 0) = t := by rw [e1]; exact u_of t ht
  have keep : ∀ (ys : List Int) (P' : Pt), ys.getD 0 0 = h → ys.getD 1 0 = t → Loc size ys P' h → Al size ys P' := fun ys P' y0 y1 hl' => .inr ⟨hs, h, t, y0, y1, hh, ht, hg, hl'⟩
  unfold Loc at hl
  unfold left
  rw [hd] at hl ⊢
  cases a
  case putLoad => exact ⟨keep _ _ e0 e1 rfl, by simp [acc]⟩
  case putNext =>
    have k : xs.getD 2 0 = P.up.old := hl
    by_cases h0 : P.up.old = 0
    · simp only [acc, if_pos k, if_pos h0]
      exact ⟨.inl rfl, by omega⟩
    · simp only [acc, if_pos k, if_neg h0]
      exact ⟨keep _ _ (by rw [getD_set _ _ _ _ (by omega)]; exact e0) (by rw [getD_set _ _ _ _ (by omega)]; exact e1) trivial, by omega⟩
  case putHead => exact ⟨keep _ _ e0 e1 uh, by simp [acc]⟩
  case putTail =>
    have hgap : gap xs P.up = u ((t : Int) - h) := by
      unfold gap
      rw [ut]
      show u ((t : Int) - (P.head : Int)) = _
      rw [show P.head = h from hl]
    by_cases h1 : gap xs P.up < size
    · simp only [acc, if_pos h1]
      exact ⟨keep _ _ e0 e1 trivial, by omega⟩
    · simp only [acc, if_neg h1]
      refine ⟨keep _ _ e0 e1 ⟨hl, ?_, ?_⟩, ?_⟩
      · show 0 < gap xs P.up / 2
        omega
      · show gap xs P.up / 2 ≤ size / 2
        omega
      · show gap xs P.up / 2 - 0 + 1 < size / 2 + 3
        omega
  case putCell => exact ⟨keep _ _ (by show (List.set _ _ _).getD _ _ = _; rw [getD_set _ _ _ _ (by omega)]; exact e0) (by show (List.set _ _ _).getD _ _ = _; rw [getD_set _ _ _ _ (by omega)]; exact e1) trivial, by simp [acc]⟩
  case putDone => exact ⟨.inl rfl, by simp [acc]⟩
  case spill =>
    obtain ⟨l1, l2, l3⟩ := hl
    by_cases h1 : P.up.bs.length + 1 = P.up.many
    · simp only [acc, if_pos h1]
      exact ⟨keep _ _ e0 e1 l1, by omega⟩
    · have h2 : ¬ P.bs.length + 1 = P.many := h1
      simp only [acc, if_neg h1]
      refine ⟨keep _ _ e0 e1 ⟨l1, ?_, l3⟩, ?_⟩
      · show (P.bs ++ [_]).length < P.many
        simp
        omega
      · show P.many - (P.bs ++ [_]).length + 1 < _
        simp
        omega
  case spillDone =>
    have k : xs.getD 0 0 = P.up.head := by rw [e0]; show (h : Int) = (P.head : Int); rw [show P.head = h from hl]
    simp only [acc, if_pos k]
    exact ⟨.inl rfl, by omega⟩
  case getLoad =>
    by_cases h1 : xs.getD 2 0 = 0
    · simp only [acc, if_pos h1]
      exact ⟨keep _ _ e0 e1 trivial, by omega⟩
    · simp only [acc, if_neg h1]
      exact ⟨keep _ _ e0 e1 rfl, by omega⟩
  case getNext =>
    have k : xs.getD 2 0 = P.up.old := hl
    simp only [acc, if_pos k]
    exact ⟨.inl rfl, by omega⟩
  case getHead => exact ⟨keep _ _ e0 e1 uh, by simp [acc]⟩
  case getTail =>
    by_cases h1 : u (xs.getD 1 0) = P.up.head
    · simp only [acc, if_pos h1]
      exact ⟨.inl rfl, by omega⟩
    · simp only [acc, if_neg h1]
      exact ⟨keep _ _ e0 e1 hl, by omega⟩
  case getCell => exact ⟨keep _ _ e0 e1 hl, by simp [acc]⟩
  case getDone =>
    have k : xs.getD 0 0 = P.up.head := by rw [e0]; show (h : Int) = (P.head : Int); rw [show P.head = h from hl]
    simp only [acc, if_pos k]
    exact ⟨.inl rfl, by omega⟩
  case grabHead => exact ⟨keep _ _ e0 e1 uh, by simp [acc]⟩
  case grabTail =>
    have hgap : gap xs P.up = u ((t : Int) - h) := by
      unfold gap
      rw [ut]
      show u ((t : Int) - (P.head : Int)) = _
      rw [show P.head = h from hl]
    by_cases h1 : gap xs P.up = 0
    · simp only [acc, if_pos h1]
      exact ⟨keep _ _ e0 e1 trivial, by omega⟩
    · have h2 : ¬ size / 2 < gap xs P.up - gap xs P.up / 2 := by omega
      simp only [acc, if_neg h1, if_neg h2]
      refine ⟨keep _ _ e0 e1 ⟨hl, ?_, ?_⟩, ?_⟩
      · show 0 < gap xs P.up - gap xs P.up / 2
        omega
      · show gap xs P.up - gap xs P.up / 2 ≤ size / 2
        omega
      · show gap xs P.up - gap xs P.up / 2 - 0 + 1 < size / 2 + 3
        omega
  case grabLoad =>
    by_cases h1 : xs.getD 2 0 = 0
    · simp only [acc, if_pos h1]
      exact ⟨.inl rfl, by omega⟩
    · simp only [acc, if_neg h1]
      exact ⟨keep _ _ e0 e1 rfl, by omega⟩
  case grabNext =>
    have k : xs.getD 2 0 = P.up.old := hl
    simp only [acc, if_pos k]
    exact ⟨.inl rfl, by omega⟩
  case grabCells =>
    obtain ⟨l1, l2, l3⟩ := hl
    by_cases h1 : P.up.bs.length + 1 = P.up.many
    · simp only [acc, if_pos h1]
      exact ⟨keep _ _ e0 e1 l1, by omega⟩
    · have h2 : ¬ P.bs.length + 1 = P.many := h1
      simp only [acc, if_neg h1]
      refine ⟨keep _ _ e0 e1 ⟨l1, ?_, l3⟩, ?_⟩
      · show (P.bs ++ [_]).length < P.many
        simp
        omega
      · show P.many - (P.bs ++ [_]).length + 1 < _
        simp
        omega
  case grabDone =>
    have k : xs.getD 0 0 = P.up.head := by rw [e0]; show (h : Int) = (P.head : Int); rw [show P.head = h from hl]
    simp only [acc, if_pos k]
    exact ⟨.inl rfl, by omega⟩
end Go.Proofs.Ythnhjhlpimgkiaa

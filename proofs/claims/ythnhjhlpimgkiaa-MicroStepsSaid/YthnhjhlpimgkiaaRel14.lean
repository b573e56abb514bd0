/-
  The reference's task against the task in plain.
-/
import Derived.Test.YthnhjhlpimgkiaaRca14
import Derived.Test.YthnhjhlpimgkiaaTin14
namespace Go.Proofs.Ythnhjhlpimgkiaa
open Go.RowKit
/-- The letter of an access. -/
def Ac.pl : Ac → Int
  | .putLoad => 97
  | .putNext => 98
  | .putHead => 99
  | .putTail => 100
  | .putCell => 101
  | .putDone => 102
  | .spill => 103
  | .spillDone => 104
  | .getLoad => 97
  | .getNext => 98
  | .getHead => 99
  | .getTail => 100
  | .getCell => 101
  | .getDone => 102
  | .grabHead => 97
  | .grabTail => 98
  | .grabLoad => 99
  | .grabNext => 100
  | .grabCells => 101
  | .grabDone => 102
/-- The kind of an access's task. -/
def Ac.kd : Ac → Int
  | .putLoad | .putNext | .putHead | .putTail | .putCell | .putDone | .spill | .spillDone => 0
  | .getLoad | .getNext | .getHead | .getTail | .getCell | .getDone => 1
  | _ => 2
/-- Does an access need the buffer? -/
def Ac.hot : Ac → Bool
  | .spill | .spillDone | .grabCells | .grabDone => true
  | _ => false
def AtIs (P : Pt) (R : Rt) : Prop :=
  match P.d with
  | none => R.pl = 122
  | some a => R.kind = a.kd ∧ R.pl = a.pl ∧ R.got = [] ∧ P.gs = [] ∧ (a.hot = true → R.many = P.many ∧ R.buf = P.bs)
/-- The reference's task is the same. -/
structure Rel (P : Pt) (R : Rt) : Prop where
  g : P.d ≠ none → R.g = P.g
  old : R.old = P.old
  head : R.head = P.head
  tail : R.tail = P.tail
  steps : R.steps = P.steps
  lt : P.head < 4294967296 ∧ P.tail < 4294967296 ∧ P.many < 4294967296 ∧ P.steps < 1000
  got : R.got = P.gs
  len : R.buf.length ≤ P.steps ∧ P.bs.length ≤ P.steps
  pos : AtIs P R
/-- Numbers in memory, in a block of q. -/
def RowQ (w : World) (q : Nat → Prop) (V : Value) (zs : List Int) : Prop :=
  ∃ A n c, V = .slice A n c ∧ zs.length = n ∧ (zs = [] ∨ ∃ b off, A = some ⟨b, off, none⟩ ∧ b < w.heap.size ∧ q b ∧ ∀ j u, (ints zs)[j]? = some u → w.cell? ⟨b, off + j, none⟩ = some u)
theorem RowQ.nil (w : World) (q : Nat → Prop) : RowQ w q (.slice none 0 0) [] := ⟨none, 0, 0, rfl, rfl, .inl rfl⟩
theorem RowQ.mv {w w' : World} {q : Nat → Prop} {V : Value} {zs : List Int} {L : List Nat} (h : RowQ w q V zs) (hm : Mv L w w') (hL : ∀ b ∈ L, ¬ q b) : RowQ w' (Qn q w) V zs := by
  obtain ⟨A, n, c, rfl, hl, h⟩ := h
  refine ⟨A, n, c, rfl, hl, ?_⟩
  rcases h with h | ⟨b, off, rfl, hb, hq, hc⟩
  · exact .inl h
  · refine .inr ⟨b, off, rfl, Nat.lt_of_lt_of_le hb hm.size, .inl ⟨hq, hb⟩, fun j u hu => ?_⟩
    have h1 : w'.heap[b]? = w.heap[b]? := hm.block b hb (fun h => hL b h hq)
    rw [← hc j u hu]
    unfold World.cell?
    rw [h1]
/-- The two ends of the row are small numbers. -/
def XOk (xs : List Int) : Prop := 0 ≤ xs.getD 0 0 ∧ xs.getD 0 0 < 4294967296 ∧ 0 ≤ xs.getD 1 0 ∧ xs.getD 1 0 < 4294967296
/-- What an access of the reference gives. -/
def RO (w : World) (g : Nat) (q : Nat → Prop) (xs' : List Int) (P' : Pt) (e : Ending) (w' : World) : Prop :=
  ∃ R' B' G', e = .returned (.agg (rtArr R' B' G')) ∧ Rel P' R' ∧ RowQ w' (Qn q w) B' R'.buf ∧ RowQ w' (Qn q w) G' R'.got ∧ Blk w' g 2 (ints xs').toArray ∧ Mv [g] w w'
end Go.Proofs.Ythnhjhlpimgkiaa

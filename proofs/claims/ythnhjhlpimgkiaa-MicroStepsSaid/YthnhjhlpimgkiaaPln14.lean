/-
  Chapter 14: the accesses of a task in plain: what each does to the cells and to the task.
-/
import Derived.Test.YthnhjhlpimgkiaaLdh14
namespace Go.Proofs.Ythnhjhlpimgkiaa
open Go.RowKit
/-- The accesses. -/
inductive Ac where
  | putLoad | putNext | putHead | putTail | putCell | putDone | spill | spillDone
  | getLoad | getNext | getHead | getTail | getCell | getDone
  | grabHead | grabTail | grabLoad | grabNext | grabCells | grabDone
/-- The function of an access. -/
def Ac.fn : Ac → Nat
  | .putLoad => 28
  | .putNext => 43
  | .putHead => 26
  | .putTail => 42
  | .putCell => 55
  | .putDone => 63
  | .spill => 56
  | .spillDone => 65
  | .getLoad => 29
  | .getNext => 44
  | .getHead => 45
  | .getTail => 58
  | .getCell => 67
  | .getDone => 71
  | .grabHead => 30
  | .grabTail => 46
  | .grabLoad => 59
  | .grabNext => 68
  | .grabCells => 60
  | .grabDone => 69
/-- A task in plain. -/
structure Pt where
  d : Option Ac
  g : Int
  old : Int
  head : Nat
  tail : Nat
  many : Nat
  bs : List Int
  gs : List Int
  steps : Nat
/-- How many wait, by what was loaded. -/
def gap (xs : List Int) (P : Pt) : Nat := u ((u (xs.getD 1 0) : Int) - P.head)
/-- The next cell of the row. -/
def nextCell (size : Nat) (xs : List Int) (P : Pt) : Int := xs.getD (3 + u ((P.head : Int) + P.bs.length) % size) 0
/-- One access. -/
def acc (size : Nat) (xs : List Int) (P : Pt) : Ac → List Int × Pt
  | .putLoad => (xs, { P with old := xs.getD 2 0, d := some .putNext })
  | .putNext => if xs.getD 2 0 = P.old then (xs.set 2 P.g, if P.old = 0 then { P with d := none, gs := [] } else { P with g := P.old, d := some .putHead }) else (xs, { P with d := some .putLoad })
  | .putHead => (xs, { P with head := u (xs.getD 0 0), d := some .putTail })
  | .putTail => (xs, if gap xs P < size then { P with tail := u (xs.getD 1 0), d := some .putCell } else { P with tail := u (xs.getD 1 0), many := gap xs P / 2, bs := [], d := some .spill })
  | .putCell => (xs.set (3 + P.tail % size) P.g, { P with d := some .putDone })
  | .putDone => (xs.set 1 (u ((P.tail : Int) + 1)), { P with d := none, gs := [] })
  | .spill => (xs, { P with bs := P.bs ++ [nextCell size xs P], d := if P.bs.length + 1 = P.many then some .spillDone else some .spill })
  | .spillDone => if xs.getD 0 0 = P.head then (xs.set 0 (u ((P.head : Int) + P.many)), { P with d := none, gs := P.bs ++ [P.g] }) else (xs, { P with d := some .putHead })
  | .getLoad => (xs, { P with old := xs.getD 2 0, d := if xs.getD 2 0 = 0 then some .getHead else some .getNext })
  | .getNext => if xs.getD 2 0 = P.old then (xs.set 2 0, { P with d := none, gs := [P.old] }) else (xs, { P with d := some .getHead })
  | .getHead => (xs, { P with head := u (xs.getD 0 0), d := some .getTail })
  | .getTail => (xs, if u (xs.getD 1 0) = P.head then { P with tail := u (xs.getD 1 0), d := none, gs := [] } else { P with tail := u (xs.getD 1 0), d := some .getCell })
  | .getCell => (xs, { P with old := xs.getD (3 + P.head % size) 0, d := some .getDone })
  | .getDone => if xs.getD 0 0 = P.head then (xs.set 0 (u ((P.head : Int) + 1)), { P with d := none, gs := [P.old] }) else (xs, { P with d := some .getHead })
  | .grabHead => (xs, { P with head := u (xs.getD 0 0), d := some .grabTail })
  | .grabTail => (xs, { P with tail := u (xs.getD 1 0), many := gap xs P - gap xs P / 2, bs := [], d := if gap xs P = 0 then some .grabLoad else if size / 2 < gap xs P - gap xs P / 2 then some .grabHead else some .grabCells })
  | .grabLoad => (xs, if xs.getD 2 0 = 0 then { P with old := xs.getD 2 0, d := none, gs := [] } else { P with old := xs.getD 2 0, d := some .grabNext })
  | .grabNext => if xs.getD 2 0 = P.old then (xs.set 2 0, { P with d := none, gs := [P.old] }) else (xs, { P with d := some .grabHead })
  | .grabCells => (xs, { P with bs := P.bs ++ [nextCell size xs P], d := if P.bs.length + 1 = P.many then some .grabDone else some .grabCells })
  | .grabDone => if xs.getD 0 0 = P.head then (xs.set 0 (u ((P.head : Int) + P.many)), { P with d := none, gs := P.bs }) else (xs, { P with d := some .grabHead })
/-- A task that has had one access more. -/
def Pt.up (P : Pt) : Pt := { P with steps := P.steps + 1 }
theorem acc_steps (size : Nat) (xs : List Int) (P : Pt) (a : Ac) : (acc size xs P a).2.steps = P.steps := by
  cases a <;> simp only [acc] <;> (repeat' split) <;> rfl
theorem acc_length (size : Nat) (xs : List Int) (P : Pt) (a : Ac) : (acc size xs P a).1.length = xs.length := by
  cases a <;> simp only [acc] <;> (repeat' split) <;> simp
end Go.Proofs.Ythnhjhlpimgkiaa

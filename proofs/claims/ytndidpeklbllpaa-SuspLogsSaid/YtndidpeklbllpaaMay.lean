/-
  Contracts of gstat.follows, gstat.May, gstat.Move.
-/
import Derived.Test.YtndidpeklbllpaaGstat
import Derived.Test.YtndidpeklbllpaaCalm
namespace Go.Proofs.Ytndidpeklbllpaa
open Go.RowKit
theorem ret_bool {a b : Bool} (h : a = b) : Ending.returned (.bool a) = .returned (.bool b) := by rw [h]
/-- Which status may follow which. -/
def mayB (f t : Int) : Bool := if f = 0 ∨ f = 4 ∨ f = 5 then t == 1 else if f = 1 then t == 2 || t == 5 else if f = 2 then t == 1 || (decide (3 ≤ t) && decide (t ≤ 6)) else if f = 3 then t == 1 || t == 2 else false
/-- What Move answers. -/
def moveI (n t : Int) : Int := if isB n && decide (0 ≤ t ∧ t ≤ 6) && mayB (baseI n) t then (if n < 8 then t else if t = 1 then 9 else 0) else 0
def moveF (n t : Int) : Int := if isB n && decide (0 ≤ t ∧ t ≤ 6) then (if mayB (baseI n) t then (if n < 8 ∨ t = 1 then 0 else 7) else 9) else 1
end Go.Proofs.Ytndidpeklbllpaa

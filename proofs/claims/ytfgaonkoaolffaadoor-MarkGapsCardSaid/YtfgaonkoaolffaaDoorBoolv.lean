/-
  Truths as cells. No program in sight.
-/
import Derived.WalkKit
namespace Go.Proofs.YtfgaonkoaolffaaDoor
open Go.RowKit
def boolVals (ss : List Bool) : List Value := ss.map Value.bool
theorem boolVals_at (ss : List Bool) (k : Nat) (h : k < ss.length) : (boolVals ss)[k]? = some (.bool ss[k]) := by simp [boolVals, h]
end Go.Proofs.YtfgaonkoaolffaaDoor

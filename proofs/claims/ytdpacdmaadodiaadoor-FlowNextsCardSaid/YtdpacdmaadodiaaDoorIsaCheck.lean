/-
  Contract of isa.Check. Condition: the table is laid.
-/
import Derived.Test.YtdpacdmaadodiaaDoorRef06
namespace Go.Proofs.YtdpacdmaadodiaaDoor
open Go.RowKit
def isOpB (op : Int) : Bool := decide (0 ≤ op ∧ op < 24)
theorem opName_out (op : Int) (h : isOpB op = false) : opName op = ⟨#[]⟩ := by
  have h' : op < 0 ∨ 24 ≤ op := by simp [isOpB] at h; omega
  simp [opName, opRow_out op h', noRow]
end Go.Proofs.YtdpacdmaadodiaaDoor

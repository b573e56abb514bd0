/-
  Contracts of the reference's Names, Is, Check.
-/
import Derived.Test.YtdpacdmaadodiaaDoorIsaCheck
namespace Go.Proofs.YtdpacdmaadodiaaDoor
open Go.RowKit
def namesArr : Array Value := (tabT.map fun r => Value.string ⟨r.name.toArray⟩).toArray
theorem number_iff (op : Int) (h : isOpB op = true) : opNumber op = (op == 1) := by
  have h' : ¬ (op < 0 ∨ 24 ≤ op) := by simp [isOpB] at h; omega
  rcases op24 op h' with rfl | rfl | rfl | rfl | rfl | rfl | rfl | rfl | rfl | rfl | rfl | rfl | rfl | rfl | rfl | rfl | rfl | rfl | rfl | rfl | rfl | rfl | rfl | rfl <;> decide
end Go.Proofs.YtdpacdmaadodiaaDoor

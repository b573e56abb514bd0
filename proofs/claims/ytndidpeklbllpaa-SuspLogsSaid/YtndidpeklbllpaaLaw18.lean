/-
  The laws of chapter 18: GstatLooks, GstatMoves, as contracts: each returns true, and nothing that was there has changed.
-/
import Derived.Test.YtndidpeklbllpaaName18
namespace Go.Proofs.Ytndidpeklbllpaa
open Go.RowKit
theorem i64_lit (n : Int) (h : -1000000 ≤ n ∧ n ≤ 1000000) : I64 n := ⟨by omega, by omega⟩
end Go.Proofs.Ytndidpeklbllpaa

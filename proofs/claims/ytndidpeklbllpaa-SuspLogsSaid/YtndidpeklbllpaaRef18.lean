/-
  Contracts of the reference escapementref18, in the words of the contracts of gstat.
-/
import Derived.Test.YtndidpeklbllpaaMay
namespace Go.Proofs.Ytndidpeklbllpaa
open Go.RowKit
end Go.Proofs.Ytndidpeklbllpaa

/-
  Contracts of gstat.Name and of its reference.
-/
import Derived.Test.YtndidpeklbllpaaRef18
namespace Go.Proofs.Ytndidpeklbllpaa
open Go.RowKit
/-- The names, as bytes. -/
def bareName (s : Int) : List UInt8 := if s = 0 then [105, 100, 108, 101] else if s = 1 then [114, 117, 110, 110, 97, 98, 108, 101] else if s = 2 then [114, 117, 110, 110, 105, 110, 103] else if s = 3 then [115, 121, 115, 99, 97, 108, 108] else if s = 4 then [119, 97, 105, 116, 105, 110, 103] else if s = 5 then [112, 114, 101, 101, 109, 112, 116, 101, 100] else [100, 101, 97, 100]
def nameS (n : Int) : ByteArray := ⟨(if isB n then (if n < 8 then bareName n else bareName (n - 8) ++ [43]) else []).toArray⟩
theorem name_no (n : Int) (h : isB n = false) : nameS n = ⟨#[]⟩ := by simp [nameS, h]
end Go.Proofs.Ytndidpeklbllpaa

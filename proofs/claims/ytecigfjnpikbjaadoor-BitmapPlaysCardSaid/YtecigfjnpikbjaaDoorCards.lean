/-
  DERIVED. GIVEN WITH THE SEED: THE CARDS: each row of YtecigfjnpikbjaaDoorRows.lean that lists a variable, with what it lists TIED to the program's text (the seventh form; the later family's looks); each row that meets fmt, with fmt's text TOLD by the authors' own Lean function (tested against real Go, not proved from fmt's source: count such statements apart). THE CARD IS WHAT COUNTS. Prove the row's statement (the work); the ties are given (YtecigfjnpikbjaaDoorTie.lean); close each card by the builder's one call (the guide's Derived/Test/ToyasCard.lean, 'card_holds'). Laid BY PROGRAM, IN A SANDBOX (cutbox-door.mjs). By AI agents, Wed Nov 11 2026. No macro, syntax, notation, axiom, sorry.
-/
import Derived.Test.YtecigfjnpikbjaaDoorRows
import GoSem.ClaimSeven
namespace Go.Proofs.YtecigfjnpikbjaaDoor
namespace Rows

/-- THE TIED CARD OF 'escapementlaw05.BitmapBytes'. -/
def bitmapBytesCard : Claim7 := { stood := { row := bitmapBytesRow, standIns := [], harness := (true, "587a69383695a2041d1e122da09ac4b2ef15ec619a3966ea77ca56e7972efeea"), looks := false }, kinds := [], alts := [], laidByText := true, laidKinds := [.data], laidTests := true, laidLooks := .later }
def BitmapBytesCardSaid : Prop := Claim7.holds Tryd.pinned (.plain (OpenSpec.ofChange bitmapBytesSpec)) bitmapBytesCard

/-- THE TIED CARD OF 'escapementlaw05.BitmapBack'. -/
def bitmapBackCard : Claim7 := { stood := { row := bitmapBackRow, standIns := [], harness := (true, "587a69383695a2041d1e122da09ac4b2ef15ec619a3966ea77ca56e7972efeea"), looks := false }, kinds := [], alts := [], laidByText := true, laidKinds := [.data], laidTests := true, laidLooks := .later }
def BitmapBackCardSaid : Prop := Claim7.holds Tryd.pinned (.plain (OpenSpec.ofChange bitmapBackSpec)) bitmapBackCard

/-- THE TIED CARD OF 'escapementlaw05.BitmapPlays'. -/
def bitmapPlaysCard : Claim7 := { stood := { row := bitmapPlaysRow, standIns := [], harness := (true, "587a69383695a2041d1e122da09ac4b2ef15ec619a3966ea77ca56e7972efeea"), looks := false }, kinds := [], alts := [], laidByText := true, laidKinds := [.data], laidTests := true, laidLooks := .later }
def BitmapPlaysCardSaid : Prop := Claim7.holds Tryd.pinned (.plain (OpenSpec.ofChange bitmapPlaysSpec)) bitmapPlaysCard

/-- THE TIED CARD OF 'escapementlaw05.BitmapSizes'. -/
def bitmapSizesCard : Claim7 := { stood := { row := bitmapSizesRow, standIns := [], harness := (true, "587a69383695a2041d1e122da09ac4b2ef15ec619a3966ea77ca56e7972efeea"), looks := false }, kinds := [], alts := [], laidByText := true, laidKinds := [.data], laidTests := true, laidLooks := .later }
def BitmapSizesCardSaid : Prop := Claim7.holds Tryd.pinned (.plain (OpenSpec.ofChange bitmapSizesSpec)) bitmapSizesCard

/-- THE SECOND FORM's CARD OF 'escapementlaw05.BitmapBytes'. -/
def bitmapBytesUptoCard : Claim7 := { stood := { row := bitmapBytesUptoRow, standIns := [], harness := (true, "587a69383695a2041d1e122da09ac4b2ef15ec619a3966ea77ca56e7972efeea"), looks := false }, kinds := [], alts := [], laidByText := true, laidKinds := [.data], laidTests := true, laidLooks := .later }
def BitmapBytesUptoCardSaid : Prop := Claim7.holds Tryd.pinned (.plain (OpenSpec.upto bitmapBytesSpec)) bitmapBytesUptoCard

/-- THE SECOND FORM's CARD OF 'escapementlaw05.BitmapBack'. -/
def bitmapBackUptoCard : Claim7 := { stood := { row := bitmapBackUptoRow, standIns := [], harness := (true, "587a69383695a2041d1e122da09ac4b2ef15ec619a3966ea77ca56e7972efeea"), looks := false }, kinds := [], alts := [], laidByText := true, laidKinds := [.data], laidTests := true, laidLooks := .later }
def BitmapBackUptoCardSaid : Prop := Claim7.holds Tryd.pinned (.plain (OpenSpec.upto bitmapBackSpec)) bitmapBackUptoCard

/-- THE SECOND FORM's CARD OF 'escapementlaw05.BitmapPlays'. -/
def bitmapPlaysUptoCard : Claim7 := { stood := { row := bitmapPlaysUptoRow, standIns := [], harness := (true, "587a69383695a2041d1e122da09ac4b2ef15ec619a3966ea77ca56e7972efeea"), looks := false }, kinds := [], alts := [], laidByText := true, laidKinds := [.data], laidTests := true, laidLooks := .later }
def BitmapPlaysUptoCardSaid : Prop := Claim7.holds Tryd.pinned (.plain (OpenSpec.upto bitmapPlaysSpec)) bitmapPlaysUptoCard

/-- THE SECOND FORM's CARD OF 'escapementlaw05.BitmapSizes'. -/
def bitmapSizesUptoCard : Claim7 := { stood := { row := bitmapSizesUptoRow, standIns := [], harness := (true, "587a69383695a2041d1e122da09ac4b2ef15ec619a3966ea77ca56e7972efeea"), looks := false }, kinds := [], alts := [], laidByText := true, laidKinds := [.data], laidTests := true, laidLooks := .later }
def BitmapSizesUptoCardSaid : Prop := Claim7.holds Tryd.pinned (.plain (OpenSpec.upto bitmapSizesSpec)) bitmapSizesUptoCard
end Rows
end Go.Proofs.YtecigfjnpikbjaaDoor

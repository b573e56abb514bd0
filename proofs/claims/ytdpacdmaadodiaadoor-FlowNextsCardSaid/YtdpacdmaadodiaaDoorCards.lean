/-
  DERIVED. GIVEN WITH THE SEED: THE CARDS: each row of YtdpacdmaadodiaaDoorRows.lean that lists a variable, with what it lists TIED to the program's text (the seventh form; the later family's looks); each row that meets fmt, with fmt's text TOLD by the authors' own Lean function (tested against real Go, not proved from fmt's source: count such statements apart). THE CARD IS WHAT COUNTS. Prove the row's statement (the work); the ties are given (YtdpacdmaadodiaaDoorTie.lean); close each card by the builder's one call (the guide's Derived/Test/ToyasCard.lean, 'card_holds'). Laid BY PROGRAM, IN A SANDBOX (cutbox-door.mjs). By AI agents, Wed Nov 11 2026. No macro, syntax, notation, axiom, sorry.
-/
import Derived.Test.YtdpacdmaadodiaaDoorRows
import GoSem.ClaimSeven
namespace Go.Proofs.YtdpacdmaadodiaaDoor
namespace Rows

/-- THE TIED CARD OF 'escapementlaw08.FlowSafe'. -/
def flowSafeCard : Claim7 := { stood := { row := flowSafeRow, standIns := [], harness := (true, "12098fb10543329ebf8e1ad78668077f7c94b045226345e33f3cff7c3b5e10eb"), looks := false }, kinds := [], alts := [], laidByText := true, laidKinds := [.data], laidTests := true, laidLooks := .later }
def FlowSafeCardSaid : Prop := Claim7.holds Tryd.pinned (.plain (OpenSpec.ofChange flowSafeSpec)) flowSafeCard

/-- THE TIED CARD OF 'escapementlaw08.FlowGaps'. -/
def flowGapsCard : Claim7 := { stood := { row := flowGapsRow, standIns := [], harness := (true, "12098fb10543329ebf8e1ad78668077f7c94b045226345e33f3cff7c3b5e10eb"), looks := false }, kinds := [], alts := [], laidByText := true, laidKinds := [.data], laidTests := true, laidLooks := .later }
def FlowGapsCardSaid : Prop := Claim7.holds Tryd.pinned (.plain (OpenSpec.ofChange flowGapsSpec)) flowGapsCard

/-- THE TIED CARD OF 'escapementlaw08.FlowRows'. -/
def flowRowsCard : Claim7 := { stood := { row := flowRowsRow, standIns := [], harness := (true, "12098fb10543329ebf8e1ad78668077f7c94b045226345e33f3cff7c3b5e10eb"), looks := false }, kinds := [], alts := [], laidByText := true, laidKinds := [.data], laidTests := true, laidLooks := .later }
def FlowRowsCardSaid : Prop := Claim7.holds Tryd.pinned (.plain (OpenSpec.ofChange flowRowsSpec)) flowRowsCard

/-- THE TIED CARD OF 'escapementlaw08.FlowNexts'. -/
def flowNextsCard : Claim7 := { stood := { row := flowNextsRow, standIns := [], harness := (true, "12098fb10543329ebf8e1ad78668077f7c94b045226345e33f3cff7c3b5e10eb"), looks := false }, kinds := [], alts := [], laidByText := true, laidKinds := [.data], laidTests := true, laidLooks := .later }
def FlowNextsCardSaid : Prop := Claim7.holds Tryd.pinned (.plain (OpenSpec.ofChange flowNextsSpec)) flowNextsCard

/-- THE SECOND FORM's CARD OF 'escapementlaw08.FlowSafe'. -/
def flowSafeUptoCard : Claim7 := { stood := { row := flowSafeUptoRow, standIns := [], harness := (true, "12098fb10543329ebf8e1ad78668077f7c94b045226345e33f3cff7c3b5e10eb"), looks := false }, kinds := [], alts := [], laidByText := true, laidKinds := [.data], laidTests := true, laidLooks := .later }
def FlowSafeUptoCardSaid : Prop := Claim7.holds Tryd.pinned (.plain (OpenSpec.upto flowSafeSpec)) flowSafeUptoCard

/-- THE SECOND FORM's CARD OF 'escapementlaw08.FlowGaps'. -/
def flowGapsUptoCard : Claim7 := { stood := { row := flowGapsUptoRow, standIns := [], harness := (true, "12098fb10543329ebf8e1ad78668077f7c94b045226345e33f3cff7c3b5e10eb"), looks := false }, kinds := [], alts := [], laidByText := true, laidKinds := [.data], laidTests := true, laidLooks := .later }
def FlowGapsUptoCardSaid : Prop := Claim7.holds Tryd.pinned (.plain (OpenSpec.upto flowGapsSpec)) flowGapsUptoCard

/-- THE SECOND FORM's CARD OF 'escapementlaw08.FlowRows'. -/
def flowRowsUptoCard : Claim7 := { stood := { row := flowRowsUptoRow, standIns := [], harness := (true, "12098fb10543329ebf8e1ad78668077f7c94b045226345e33f3cff7c3b5e10eb"), looks := false }, kinds := [], alts := [], laidByText := true, laidKinds := [.data], laidTests := true, laidLooks := .later }
def FlowRowsUptoCardSaid : Prop := Claim7.holds Tryd.pinned (.plain (OpenSpec.upto flowRowsSpec)) flowRowsUptoCard

/-- THE SECOND FORM's CARD OF 'escapementlaw08.FlowNexts'. -/
def flowNextsUptoCard : Claim7 := { stood := { row := flowNextsUptoRow, standIns := [], harness := (true, "12098fb10543329ebf8e1ad78668077f7c94b045226345e33f3cff7c3b5e10eb"), looks := false }, kinds := [], alts := [], laidByText := true, laidKinds := [.data], laidTests := true, laidLooks := .later }
def FlowNextsUptoCardSaid : Prop := Claim7.holds Tryd.pinned (.plain (OpenSpec.upto flowNextsSpec)) flowNextsUptoCard
end Rows
end Go.Proofs.YtdpacdmaadodiaaDoor

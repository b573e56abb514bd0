/-
  DERIVED. GIVEN WITH THE SEED: THE CARDS: each row of YtfgaonkoaolffaaDoorRows.lean that lists a variable, with what it lists TIED to the program's text (the seventh form; the later family's looks); each row that meets fmt, with fmt's text TOLD by the authors' own Lean function (tested against real Go, not proved from fmt's source: count such statements apart). THE CARD IS WHAT COUNTS. Prove the row's statement (the work); the ties are given (YtfgaonkoaolffaaDoorTie.lean); close each card by the builder's one call (the guide's Derived/Test/ToyasCard.lean, 'card_holds'). Laid BY PROGRAM, IN A SANDBOX (cutbox-door.mjs). By AI agents, Wed Nov 11 2026. No macro, syntax, notation, axiom, sorry.
-/
import Derived.Test.YtfgaonkoaolffaaDoorRows
import GoSem.ClaimSeven
namespace Go.Proofs.YtfgaonkoaolffaaDoor
namespace Rows

/-- THE TIED CARD OF 'escapementlaw39.MarkPrograms'. -/
def markProgramsCard : Claim7 := { stood := { row := markProgramsRow, standIns := [], harness := (true, "4a8cc1178697cd1f41ca41e4c3417e75fef1c7133100eebbeef77afdd5de3497"), looks := false }, kinds := [], alts := [], laidByText := true, laidKinds := [.data], laidTests := true, laidLooks := .later }
def MarkProgramsCardSaid : Prop := Claim7.holds Tryd.pinned (.plain (OpenSpec.ofChange markProgramsSpec)) markProgramsCard

/-- THE TIED CARD OF 'escapementlaw39.MarkGaps'. -/
def markGapsCard : Claim7 := { stood := { row := markGapsRow, standIns := [], harness := (true, "4a8cc1178697cd1f41ca41e4c3417e75fef1c7133100eebbeef77afdd5de3497"), looks := false }, kinds := [], alts := [], laidByText := true, laidKinds := [.data], laidTests := true, laidLooks := .later }
def MarkGapsCardSaid : Prop := Claim7.holds Tryd.pinned (.plain (OpenSpec.ofChange markGapsSpec)) markGapsCard

/-- THE SECOND FORM's CARD OF 'escapementlaw39.MarkPrograms'. -/
def markProgramsUptoCard : Claim7 := { stood := { row := markProgramsUptoRow, standIns := [], harness := (true, "4a8cc1178697cd1f41ca41e4c3417e75fef1c7133100eebbeef77afdd5de3497"), looks := false }, kinds := [], alts := [], laidByText := true, laidKinds := [.data], laidTests := true, laidLooks := .later }
def MarkProgramsUptoCardSaid : Prop := Claim7.holds Tryd.pinned (.plain (OpenSpec.upto markProgramsSpec)) markProgramsUptoCard

/-- THE SECOND FORM's CARD OF 'escapementlaw39.MarkGaps'. -/
def markGapsUptoCard : Claim7 := { stood := { row := markGapsUptoRow, standIns := [], harness := (true, "4a8cc1178697cd1f41ca41e4c3417e75fef1c7133100eebbeef77afdd5de3497"), looks := false }, kinds := [], alts := [], laidByText := true, laidKinds := [.data], laidTests := true, laidLooks := .later }
def MarkGapsUptoCardSaid : Prop := Claim7.holds Tryd.pinned (.plain (OpenSpec.upto markGapsSpec)) markGapsUptoCard
end Rows
end Go.Proofs.YtfgaonkoaolffaaDoor

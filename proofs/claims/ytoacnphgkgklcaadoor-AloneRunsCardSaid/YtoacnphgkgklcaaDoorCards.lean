/-
  DERIVED. GIVEN WITH THE SEED: THE CARDS: each row of YtoacnphgkgklcaaDoorRows.lean that lists a variable, with what it lists TIED to the program's text (the seventh form; the later family's looks); each row that meets fmt, with fmt's text TOLD by the authors' own Lean function (tested against real Go, not proved from fmt's source: count such statements apart). THE CARD IS WHAT COUNTS. Prove the row's statement (the work); the ties are given (YtoacnphgkgklcaaDoorTie.lean); close each card by the builder's one call (the guide's Derived/Test/ToyasCard.lean, 'card_holds'). Laid BY PROGRAM, IN A SANDBOX (cutbox-door.mjs). By AI agents, Wed Nov 11 2026. No macro, syntax, notation, axiom, sorry.
-/
import Derived.Test.YtoacnphgkgklcaaDoorRows
import GoSem.ClaimSeven
namespace Go.Proofs.YtoacnphgkgklcaaDoor
namespace Rows

/-- THE TIED CARD OF 'escapementlaw11.VmSteps'. -/
def vmStepsCard : Claim7 := { stood := { row := vmStepsRow, standIns := [], harness := (true, "45a049d6ce699095ffffac27f578430ced88a23c2151709f0bf6db816c841903"), looks := false }, kinds := [], alts := [], laidByText := true, laidKinds := [.data], laidTests := true, laidLooks := .later }
def VmStepsCardSaid : Prop := Claim7.holds Tryd.pinned (.plain (OpenSpec.ofChange vmStepsSpec)) vmStepsCard

/-- THE TIED CARD OF 'escapementlaw11.VmMakes'. -/
def vmMakesCard : Claim7 := { stood := { row := vmMakesRow, standIns := [], harness := (true, "45a049d6ce699095ffffac27f578430ced88a23c2151709f0bf6db816c841903"), looks := false }, kinds := [], alts := [], laidByText := true, laidKinds := [.data], laidTests := true, laidLooks := .later }
def VmMakesCardSaid : Prop := Claim7.holds Tryd.pinned (.plain (OpenSpec.ofChange vmMakesSpec)) vmMakesCard

/-- THE TIED CARD OF 'escapementlaw11.VmStays'. -/
def vmStaysCard : Claim7 := { stood := { row := vmStaysRow, standIns := [], harness := (true, "45a049d6ce699095ffffac27f578430ced88a23c2151709f0bf6db816c841903"), looks := false }, kinds := [], alts := [], laidByText := true, laidKinds := [.data], laidTests := true, laidLooks := .later }
def VmStaysCardSaid : Prop := Claim7.holds Tryd.pinned (.plain (OpenSpec.ofChange vmStaysSpec)) vmStaysCard

/-- THE TIED CARD OF 'escapementlaw12.AloneGrows'. -/
def aloneGrowsCard : Claim7 := { stood := { row := aloneGrowsRow, standIns := [], harness := (true, "45a049d6ce699095ffffac27f578430ced88a23c2151709f0bf6db816c841903"), looks := false }, kinds := [], alts := [], laidByText := true, laidKinds := [.data], laidTests := true, laidLooks := .later }
def AloneGrowsCardSaid : Prop := Claim7.holds Tryd.pinned (.plain (OpenSpec.ofChange aloneGrowsSpec)) aloneGrowsCard

/-- THE TIED CARD OF 'escapementlaw12.AloneRuns'. -/
def aloneRunsCard : Claim7 := { stood := { row := aloneRunsRow, standIns := [], harness := (true, "45a049d6ce699095ffffac27f578430ced88a23c2151709f0bf6db816c841903"), looks := false }, kinds := [], alts := [], laidByText := true, laidKinds := [.data], laidTests := true, laidLooks := .later }
def AloneRunsCardSaid : Prop := Claim7.holds Tryd.pinned (.plain (OpenSpec.ofChange aloneRunsSpec)) aloneRunsCard

/-- THE SECOND FORM's CARD OF 'escapementlaw11.VmSteps'. -/
def vmStepsUptoCard : Claim7 := { stood := { row := vmStepsUptoRow, standIns := [], harness := (true, "45a049d6ce699095ffffac27f578430ced88a23c2151709f0bf6db816c841903"), looks := false }, kinds := [], alts := [], laidByText := true, laidKinds := [.data], laidTests := true, laidLooks := .later }
def VmStepsUptoCardSaid : Prop := Claim7.holds Tryd.pinned (.plain (OpenSpec.upto vmStepsSpec)) vmStepsUptoCard

/-- THE SECOND FORM's CARD OF 'escapementlaw11.VmMakes'. -/
def vmMakesUptoCard : Claim7 := { stood := { row := vmMakesUptoRow, standIns := [], harness := (true, "45a049d6ce699095ffffac27f578430ced88a23c2151709f0bf6db816c841903"), looks := false }, kinds := [], alts := [], laidByText := true, laidKinds := [.data], laidTests := true, laidLooks := .later }
def VmMakesUptoCardSaid : Prop := Claim7.holds Tryd.pinned (.plain (OpenSpec.upto vmMakesSpec)) vmMakesUptoCard

/-- THE SECOND FORM's CARD OF 'escapementlaw11.VmStays'. -/
def vmStaysUptoCard : Claim7 := { stood := { row := vmStaysUptoRow, standIns := [], harness := (true, "45a049d6ce699095ffffac27f578430ced88a23c2151709f0bf6db816c841903"), looks := false }, kinds := [], alts := [], laidByText := true, laidKinds := [.data], laidTests := true, laidLooks := .later }
def VmStaysUptoCardSaid : Prop := Claim7.holds Tryd.pinned (.plain (OpenSpec.upto vmStaysSpec)) vmStaysUptoCard

/-- THE SECOND FORM's CARD OF 'escapementlaw12.AloneGrows'. -/
def aloneGrowsUptoCard : Claim7 := { stood := { row := aloneGrowsUptoRow, standIns := [], harness := (true, "45a049d6ce699095ffffac27f578430ced88a23c2151709f0bf6db816c841903"), looks := false }, kinds := [], alts := [], laidByText := true, laidKinds := [.data], laidTests := true, laidLooks := .later }
def AloneGrowsUptoCardSaid : Prop := Claim7.holds Tryd.pinned (.plain (OpenSpec.upto aloneGrowsSpec)) aloneGrowsUptoCard

/-- THE SECOND FORM's CARD OF 'escapementlaw12.AloneRuns'. -/
def aloneRunsUptoCard : Claim7 := { stood := { row := aloneRunsUptoRow, standIns := [], harness := (true, "45a049d6ce699095ffffac27f578430ced88a23c2151709f0bf6db816c841903"), looks := false }, kinds := [], alts := [], laidByText := true, laidKinds := [.data], laidTests := true, laidLooks := .later }
def AloneRunsUptoCardSaid : Prop := Claim7.holds Tryd.pinned (.plain (OpenSpec.upto aloneRunsSpec)) aloneRunsUptoCard
end Rows
end Go.Proofs.YtoacnphgkgklcaaDoor

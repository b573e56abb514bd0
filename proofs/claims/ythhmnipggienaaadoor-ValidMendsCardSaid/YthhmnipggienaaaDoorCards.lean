/-
  DERIVED. GIVEN WITH THE SEED: THE CARDS: each row of YthhmnipggienaaaDoorRows.lean that lists a variable, with what it lists TIED to the program's text (the seventh form; the later family's looks); each row that meets fmt, with fmt's text TOLD by the authors' own Lean function (tested against real Go, not proved from fmt's source: count such statements apart). THE CARD IS WHAT COUNTS. Prove the row's statement (the work); the ties are given (YthhmnipggienaaaDoorTie.lean); close each card by the builder's one call (the guide's Derived/Test/ToyasCard.lean, 'card_holds'). Laid BY PROGRAM, IN A SANDBOX (cutbox-door.mjs). By AI agents, Wed Nov 11 2026. No macro, syntax, notation, axiom, sorry.
-/
import Derived.Test.YthhmnipggienaaaDoorRows
import GoSem.ClaimSeven
namespace Go.Proofs.YthhmnipggienaaaDoor
namespace Rows

/-- THE TIED CARD OF 'escapementlaw06.IsaChecks'. -/
def isaChecksCard : Claim7 := { stood := { row := isaChecksRow, standIns := [], harness := (true, "42227cc9b7d987a580ac3de88ff67d186b6b263aa55f4b05d8ef255a6d5e87f6"), looks := true }, kinds := [], alts := [], laidByText := true, laidKinds := [.data], laidTests := true, laidLooks := .later }
def IsaChecksCardSaid : Prop := Claim7.holds Tryd.pinned (.plain (OpenSpec.ofChange isaChecksSpec)) isaChecksCard

/-- THE TIED CARD OF 'escapementlaw06.IsaBack'. -/
def isaBackCard : Claim7 := { stood := { row := isaBackRow, standIns := [], harness := (true, "42227cc9b7d987a580ac3de88ff67d186b6b263aa55f4b05d8ef255a6d5e87f6"), looks := true }, kinds := [], alts := [], laidByText := true, laidKinds := [.data], laidTests := true, laidLooks := .later }
def IsaBackCardSaid : Prop := Claim7.holds Tryd.pinned (.plain (OpenSpec.ofChange isaBackSpec)) isaBackCard

/-- THE TIED CARD OF 'escapementlaw06.IsaNames'. -/
def isaNamesCard : Claim7 := { stood := { row := isaNamesRow, standIns := [], harness := (true, "42227cc9b7d987a580ac3de88ff67d186b6b263aa55f4b05d8ef255a6d5e87f6"), looks := true }, kinds := [], alts := [], laidByText := true, laidKinds := [.data], laidTests := true, laidLooks := .later }
def IsaNamesCardSaid : Prop := Claim7.holds Tryd.pinned (.plain (OpenSpec.ofChange isaNamesSpec)) isaNamesCard

/-- THE TIED CARD OF 'escapementlaw06.IsaLooks'. -/
def isaLooksCard : Claim7 := { stood := { row := isaLooksRow, standIns := [], harness := (true, "42227cc9b7d987a580ac3de88ff67d186b6b263aa55f4b05d8ef255a6d5e87f6"), looks := true }, kinds := [], alts := [], laidByText := true, laidKinds := [.data], laidTests := true, laidLooks := .later }
def IsaLooksCardSaid : Prop := Claim7.holds Tryd.pinned (.plain (OpenSpec.ofChange isaLooksSpec)) isaLooksCard

/-- THE TIED CARD OF 'escapementlaw09.ValidChecks'. -/
def validChecksCard : Claim7 := { stood := { row := validChecksRow, standIns := [], harness := (true, "42227cc9b7d987a580ac3de88ff67d186b6b263aa55f4b05d8ef255a6d5e87f6"), looks := true }, kinds := [], alts := [], laidByText := true, laidKinds := [.data], laidTests := true, laidLooks := .later }
def ValidChecksCardSaid : Prop := Claim7.holds Tryd.pinned (.plain (OpenSpec.ofChange validChecksSpec)) validChecksCard

/-- THE TIED CARD OF 'escapementlaw09.ValidConfs'. -/
def validConfsCard : Claim7 := { stood := { row := validConfsRow, standIns := [], harness := (true, "42227cc9b7d987a580ac3de88ff67d186b6b263aa55f4b05d8ef255a6d5e87f6"), looks := true }, kinds := [], alts := [], laidByText := true, laidKinds := [.data], laidTests := true, laidLooks := .later }
def ValidConfsCardSaid : Prop := Claim7.holds Tryd.pinned (.plain (OpenSpec.ofChange validConfsSpec)) validConfsCard

/-- THE TIED CARD OF 'escapementlaw09.ValidStays'. -/
def validStaysCard : Claim7 := { stood := { row := validStaysRow, standIns := [], harness := (true, "42227cc9b7d987a580ac3de88ff67d186b6b263aa55f4b05d8ef255a6d5e87f6"), looks := true }, kinds := [], alts := [], laidByText := true, laidKinds := [.data], laidTests := true, laidLooks := .later }
def ValidStaysCardSaid : Prop := Claim7.holds Tryd.pinned (.plain (OpenSpec.ofChange validStaysSpec)) validStaysCard

/-- THE TIED CARD OF 'escapementlaw07.CodeApart'. -/
def codeApartCard : Claim7 := { stood := { row := codeApartRow, standIns := [], harness := (true, "42227cc9b7d987a580ac3de88ff67d186b6b263aa55f4b05d8ef255a6d5e87f6"), looks := true }, kinds := [], alts := [], laidByText := true, laidKinds := [.data], laidTests := true, laidLooks := .later }
def CodeApartCardSaid : Prop := Claim7.holds Tryd.pinned (.plain (OpenSpec.ofChange codeApartSpec)) codeApartCard

/-- THE TIED CARD OF 'escapementlaw09.ValidMends'. -/
def validMendsCard : Claim7 := { stood := { row := validMendsRow, standIns := [], harness := (true, "42227cc9b7d987a580ac3de88ff67d186b6b263aa55f4b05d8ef255a6d5e87f6"), looks := true }, kinds := [], alts := [], laidByText := true, laidKinds := [.data], laidTests := true, laidLooks := .later }
def ValidMendsCardSaid : Prop := Claim7.holds Tryd.pinned (.plain (OpenSpec.ofChange validMendsSpec)) validMendsCard

/-- THE TIED CARD OF 'escapementlaw07.CodePrints'. -/
def codePrintsCard : Claim7 := { stood := { row := codePrintsRow, standIns := [], harness := (true, "42227cc9b7d987a580ac3de88ff67d186b6b263aa55f4b05d8ef255a6d5e87f6"), looks := true }, kinds := [], alts := [], laidByText := true, laidKinds := [.data], laidTests := true, laidLooks := .later }
def CodePrintsCardSaid : Prop := Claim7.holds Tryd.pinned (.plain (OpenSpec.ofChange codePrintsSpec)) codePrintsCard

/-- THE TIED CARD OF 'escapementlaw07.CodeParses'. -/
def codeParsesCard : Claim7 := { stood := { row := codeParsesRow, standIns := [], harness := (true, "42227cc9b7d987a580ac3de88ff67d186b6b263aa55f4b05d8ef255a6d5e87f6"), looks := true }, kinds := [], alts := [], laidByText := true, laidKinds := [.data], laidTests := true, laidLooks := .later }
def CodeParsesCardSaid : Prop := Claim7.holds Tryd.pinned (.plain (OpenSpec.ofChange codeParsesSpec)) codeParsesCard

/-- THE TIED CARD OF 'escapementlaw07.CodeBack'. -/
def codeBackCard : Claim7 := { stood := { row := codeBackRow, standIns := [], harness := (true, "42227cc9b7d987a580ac3de88ff67d186b6b263aa55f4b05d8ef255a6d5e87f6"), looks := true }, kinds := [], alts := [], laidByText := true, laidKinds := [.data], laidTests := true, laidLooks := .later }
def CodeBackCardSaid : Prop := Claim7.holds Tryd.pinned (.plain (OpenSpec.ofChange codeBackSpec)) codeBackCard

/-- THE SECOND FORM's CARD OF 'escapementlaw06.IsaChecks'. -/
def isaChecksUptoCard : Claim7 := { stood := { row := isaChecksUptoRow, standIns := [], harness := (true, "42227cc9b7d987a580ac3de88ff67d186b6b263aa55f4b05d8ef255a6d5e87f6"), looks := true }, kinds := [], alts := [], laidByText := true, laidKinds := [.data], laidTests := true, laidLooks := .later }
def IsaChecksUptoCardSaid : Prop := Claim7.holds Tryd.pinned (.plain (OpenSpec.upto isaChecksSpec)) isaChecksUptoCard

/-- THE SECOND FORM's CARD OF 'escapementlaw06.IsaBack'. -/
def isaBackUptoCard : Claim7 := { stood := { row := isaBackUptoRow, standIns := [], harness := (true, "42227cc9b7d987a580ac3de88ff67d186b6b263aa55f4b05d8ef255a6d5e87f6"), looks := true }, kinds := [], alts := [], laidByText := true, laidKinds := [.data], laidTests := true, laidLooks := .later }
def IsaBackUptoCardSaid : Prop := Claim7.holds Tryd.pinned (.plain (OpenSpec.upto isaBackSpec)) isaBackUptoCard

/-- THE SECOND FORM's CARD OF 'escapementlaw06.IsaNames'. -/
def isaNamesUptoCard : Claim7 := { stood := { row := isaNamesUptoRow, standIns := [], harness := (true, "42227cc9b7d987a580ac3de88ff67d186b6b263aa55f4b05d8ef255a6d5e87f6"), looks := true }, kinds := [], alts := [], laidByText := true, laidKinds := [.data], laidTests := true, laidLooks := .later }
def IsaNamesUptoCardSaid : Prop := Claim7.holds Tryd.pinned (.plain (OpenSpec.upto isaNamesSpec)) isaNamesUptoCard

/-- THE SECOND FORM's CARD OF 'escapementlaw06.IsaLooks'. -/
def isaLooksUptoCard : Claim7 := { stood := { row := isaLooksUptoRow, standIns := [], harness := (true, "42227cc9b7d987a580ac3de88ff67d186b6b263aa55f4b05d8ef255a6d5e87f6"), looks := true }, kinds := [], alts := [], laidByText := true, laidKinds := [.data], laidTests := true, laidLooks := .later }
def IsaLooksUptoCardSaid : Prop := Claim7.holds Tryd.pinned (.plain (OpenSpec.upto isaLooksSpec)) isaLooksUptoCard

/-- THE SECOND FORM's CARD OF 'escapementlaw09.ValidChecks'. -/
def validChecksUptoCard : Claim7 := { stood := { row := validChecksUptoRow, standIns := [], harness := (true, "42227cc9b7d987a580ac3de88ff67d186b6b263aa55f4b05d8ef255a6d5e87f6"), looks := true }, kinds := [], alts := [], laidByText := true, laidKinds := [.data], laidTests := true, laidLooks := .later }
def ValidChecksUptoCardSaid : Prop := Claim7.holds Tryd.pinned (.plain (OpenSpec.upto validChecksSpec)) validChecksUptoCard

/-- THE SECOND FORM's CARD OF 'escapementlaw09.ValidConfs'. -/
def validConfsUptoCard : Claim7 := { stood := { row := validConfsUptoRow, standIns := [], harness := (true, "42227cc9b7d987a580ac3de88ff67d186b6b263aa55f4b05d8ef255a6d5e87f6"), looks := true }, kinds := [], alts := [], laidByText := true, laidKinds := [.data], laidTests := true, laidLooks := .later }
def ValidConfsUptoCardSaid : Prop := Claim7.holds Tryd.pinned (.plain (OpenSpec.upto validConfsSpec)) validConfsUptoCard

/-- THE SECOND FORM's CARD OF 'escapementlaw09.ValidStays'. -/
def validStaysUptoCard : Claim7 := { stood := { row := validStaysUptoRow, standIns := [], harness := (true, "42227cc9b7d987a580ac3de88ff67d186b6b263aa55f4b05d8ef255a6d5e87f6"), looks := true }, kinds := [], alts := [], laidByText := true, laidKinds := [.data], laidTests := true, laidLooks := .later }
def ValidStaysUptoCardSaid : Prop := Claim7.holds Tryd.pinned (.plain (OpenSpec.upto validStaysSpec)) validStaysUptoCard

/-- THE SECOND FORM's CARD OF 'escapementlaw07.CodeApart'. -/
def codeApartUptoCard : Claim7 := { stood := { row := codeApartUptoRow, standIns := [], harness := (true, "42227cc9b7d987a580ac3de88ff67d186b6b263aa55f4b05d8ef255a6d5e87f6"), looks := true }, kinds := [], alts := [], laidByText := true, laidKinds := [.data], laidTests := true, laidLooks := .later }
def CodeApartUptoCardSaid : Prop := Claim7.holds Tryd.pinned (.plain (OpenSpec.upto codeApartSpec)) codeApartUptoCard

/-- THE SECOND FORM's CARD OF 'escapementlaw09.ValidMends'. -/
def validMendsUptoCard : Claim7 := { stood := { row := validMendsUptoRow, standIns := [], harness := (true, "42227cc9b7d987a580ac3de88ff67d186b6b263aa55f4b05d8ef255a6d5e87f6"), looks := true }, kinds := [], alts := [], laidByText := true, laidKinds := [.data], laidTests := true, laidLooks := .later }
def ValidMendsUptoCardSaid : Prop := Claim7.holds Tryd.pinned (.plain (OpenSpec.upto validMendsSpec)) validMendsUptoCard

/-- THE SECOND FORM's CARD OF 'escapementlaw07.CodePrints'. -/
def codePrintsUptoCard : Claim7 := { stood := { row := codePrintsUptoRow, standIns := [], harness := (true, "42227cc9b7d987a580ac3de88ff67d186b6b263aa55f4b05d8ef255a6d5e87f6"), looks := true }, kinds := [], alts := [], laidByText := true, laidKinds := [.data], laidTests := true, laidLooks := .later }
def CodePrintsUptoCardSaid : Prop := Claim7.holds Tryd.pinned (.plain (OpenSpec.upto codePrintsSpec)) codePrintsUptoCard

/-- THE SECOND FORM's CARD OF 'escapementlaw07.CodeParses'. -/
def codeParsesUptoCard : Claim7 := { stood := { row := codeParsesUptoRow, standIns := [], harness := (true, "42227cc9b7d987a580ac3de88ff67d186b6b263aa55f4b05d8ef255a6d5e87f6"), looks := true }, kinds := [], alts := [], laidByText := true, laidKinds := [.data], laidTests := true, laidLooks := .later }
def CodeParsesUptoCardSaid : Prop := Claim7.holds Tryd.pinned (.plain (OpenSpec.upto codeParsesSpec)) codeParsesUptoCard

/-- THE SECOND FORM's CARD OF 'escapementlaw07.CodeBack'. -/
def codeBackUptoCard : Claim7 := { stood := { row := codeBackUptoRow, standIns := [], harness := (true, "42227cc9b7d987a580ac3de88ff67d186b6b263aa55f4b05d8ef255a6d5e87f6"), looks := true }, kinds := [], alts := [], laidByText := true, laidKinds := [.data], laidTests := true, laidLooks := .later }
def CodeBackUptoCardSaid : Prop := Claim7.holds Tryd.pinned (.plain (OpenSpec.upto codeBackSpec)) codeBackUptoCard
end Rows
end Go.Proofs.YthhmnipggienaaaDoor

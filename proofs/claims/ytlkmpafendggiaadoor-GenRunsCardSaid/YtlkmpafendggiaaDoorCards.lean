/-
  DERIVED. GIVEN WITH THE SEED: THE CARDS: each row of YtlkmpafendggiaaDoorRows.lean that lists a variable, with what it lists TIED to the program's text (the seventh form; the later family's looks); each row that meets fmt, with fmt's text TOLD by the authors' own Lean function (tested against real Go, not proved from fmt's source: count such statements apart). THE CARD IS WHAT COUNTS. Prove the row's statement (the work); the ties are given (YtlkmpafendggiaaDoorTie.lean); close each card by the builder's one call (the guide's Derived/Test/ToyasCard.lean, 'card_holds'). Laid BY PROGRAM, IN A SANDBOX (cutbox-door.mjs). By AI agents, Wed Nov 11 2026. No macro, syntax, notation, axiom, sorry.
-/
import Derived.Test.YtlkmpafendggiaaDoorRows
import GoSem.ClaimSeven
namespace Go.Proofs.YtlkmpafendggiaaDoor
namespace Rows

/-- THE TIED CARD OF 'escapementlaw06.IsaLooks'. -/
def isaLooksCard : Claim7 := { stood := { row := isaLooksRow, standIns := [], harness := (true, "b13987035b68c03c723bea59d107ae1f68de225a91f514a2ffeced92892de3c8"), looks := false }, kinds := [], alts := [], laidByText := true, laidKinds := [.data], laidTests := true, laidLooks := .later }
def IsaLooksCardSaid : Prop := Claim7.holds Tryd.pinned (.plain (OpenSpec.ofChange isaLooksSpec)) isaLooksCard

/-- THE TIED CARD OF 'escapementlaw06.IsaChecks'. -/
def isaChecksCard : Claim7 := { stood := { row := isaChecksRow, standIns := [], harness := (true, "b13987035b68c03c723bea59d107ae1f68de225a91f514a2ffeced92892de3c8"), looks := false }, kinds := [], alts := [], laidByText := true, laidKinds := [.data], laidTests := true, laidLooks := .later }
def IsaChecksCardSaid : Prop := Claim7.holds Tryd.pinned (.plain (OpenSpec.ofChange isaChecksSpec)) isaChecksCard

/-- THE TIED CARD OF 'escapementlaw09.ValidStays'. -/
def validStaysCard : Claim7 := { stood := { row := validStaysRow, standIns := [], harness := (true, "b13987035b68c03c723bea59d107ae1f68de225a91f514a2ffeced92892de3c8"), looks := false }, kinds := [], alts := [], laidByText := true, laidKinds := [.data], laidTests := true, laidLooks := .later }
def ValidStaysCardSaid : Prop := Claim7.holds Tryd.pinned (.plain (OpenSpec.ofChange validStaysSpec)) validStaysCard

/-- THE TIED CARD OF 'escapementlaw09.ValidMends'. -/
def validMendsCard : Claim7 := { stood := { row := validMendsRow, standIns := [], harness := (true, "b13987035b68c03c723bea59d107ae1f68de225a91f514a2ffeced92892de3c8"), looks := false }, kinds := [], alts := [], laidByText := true, laidKinds := [.data], laidTests := true, laidLooks := .later }
def ValidMendsCardSaid : Prop := Claim7.holds Tryd.pinned (.plain (OpenSpec.ofChange validMendsSpec)) validMendsCard

/-- THE TIED CARD OF 'escapementlaw33.GenDice'. -/
def genDiceCard : Claim7 := { stood := { row := genDiceRow, standIns := [], harness := (true, "b13987035b68c03c723bea59d107ae1f68de225a91f514a2ffeced92892de3c8"), looks := false }, kinds := [], alts := [], laidByText := true, laidKinds := [.data], laidTests := true, laidLooks := .later }
def GenDiceCardSaid : Prop := Claim7.holds Tryd.pinned (.plain (OpenSpec.ofChange genDiceSpec)) genDiceCard

/-- THE TIED CARD OF 'escapementlaw33.GenRuns'. -/
def genRunsCard : Claim7 := { stood := { row := genRunsRow, standIns := [], harness := (true, "b13987035b68c03c723bea59d107ae1f68de225a91f514a2ffeced92892de3c8"), looks := false }, kinds := [], alts := [], laidByText := true, laidKinds := [.data], laidTests := true, laidLooks := .later }
def GenRunsCardSaid : Prop := Claim7.holds Tryd.pinned (.plain (OpenSpec.ofChange genRunsSpec)) genRunsCard

/-- THE SECOND FORM's CARD OF 'escapementlaw06.IsaLooks'. -/
def isaLooksUptoCard : Claim7 := { stood := { row := isaLooksUptoRow, standIns := [], harness := (true, "b13987035b68c03c723bea59d107ae1f68de225a91f514a2ffeced92892de3c8"), looks := false }, kinds := [], alts := [], laidByText := true, laidKinds := [.data], laidTests := true, laidLooks := .later }
def IsaLooksUptoCardSaid : Prop := Claim7.holds Tryd.pinned (.plain (OpenSpec.upto isaLooksSpec)) isaLooksUptoCard

/-- THE SECOND FORM's CARD OF 'escapementlaw06.IsaChecks'. -/
def isaChecksUptoCard : Claim7 := { stood := { row := isaChecksUptoRow, standIns := [], harness := (true, "b13987035b68c03c723bea59d107ae1f68de225a91f514a2ffeced92892de3c8"), looks := false }, kinds := [], alts := [], laidByText := true, laidKinds := [.data], laidTests := true, laidLooks := .later }
def IsaChecksUptoCardSaid : Prop := Claim7.holds Tryd.pinned (.plain (OpenSpec.upto isaChecksSpec)) isaChecksUptoCard

/-- THE SECOND FORM's CARD OF 'escapementlaw09.ValidStays'. -/
def validStaysUptoCard : Claim7 := { stood := { row := validStaysUptoRow, standIns := [], harness := (true, "b13987035b68c03c723bea59d107ae1f68de225a91f514a2ffeced92892de3c8"), looks := false }, kinds := [], alts := [], laidByText := true, laidKinds := [.data], laidTests := true, laidLooks := .later }
def ValidStaysUptoCardSaid : Prop := Claim7.holds Tryd.pinned (.plain (OpenSpec.upto validStaysSpec)) validStaysUptoCard

/-- THE SECOND FORM's CARD OF 'escapementlaw09.ValidMends'. -/
def validMendsUptoCard : Claim7 := { stood := { row := validMendsUptoRow, standIns := [], harness := (true, "b13987035b68c03c723bea59d107ae1f68de225a91f514a2ffeced92892de3c8"), looks := false }, kinds := [], alts := [], laidByText := true, laidKinds := [.data], laidTests := true, laidLooks := .later }
def ValidMendsUptoCardSaid : Prop := Claim7.holds Tryd.pinned (.plain (OpenSpec.upto validMendsSpec)) validMendsUptoCard

/-- THE SECOND FORM's CARD OF 'escapementlaw33.GenDice'. -/
def genDiceUptoCard : Claim7 := { stood := { row := genDiceUptoRow, standIns := [], harness := (true, "b13987035b68c03c723bea59d107ae1f68de225a91f514a2ffeced92892de3c8"), looks := false }, kinds := [], alts := [], laidByText := true, laidKinds := [.data], laidTests := true, laidLooks := .later }
def GenDiceUptoCardSaid : Prop := Claim7.holds Tryd.pinned (.plain (OpenSpec.upto genDiceSpec)) genDiceUptoCard

/-- THE SECOND FORM's CARD OF 'escapementlaw33.GenRuns'. -/
def genRunsUptoCard : Claim7 := { stood := { row := genRunsUptoRow, standIns := [], harness := (true, "b13987035b68c03c723bea59d107ae1f68de225a91f514a2ffeced92892de3c8"), looks := false }, kinds := [], alts := [], laidByText := true, laidKinds := [.data], laidTests := true, laidLooks := .later }
def GenRunsUptoCardSaid : Prop := Claim7.holds Tryd.pinned (.plain (OpenSpec.upto genRunsSpec)) genRunsUptoCard
end Rows
end Go.Proofs.YtlkmpafendggiaaDoor

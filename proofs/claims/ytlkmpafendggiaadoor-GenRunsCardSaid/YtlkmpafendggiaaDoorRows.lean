/-
  NARROWER THAN 'FOR EVERY INPUT', by the rows' own cells (each row's printed sentence says how): IsaLooks: laid · IsaChecks: laid · ValidStays: laid · ValidMends: laid · GenDice: laid · GenRuns: laid.
  DERIVED. THE GIVEN ROWS OF THIS SEAT. 6 by the template 'for every input the law returns true; each argument reads behind the call as it read before'; 0 by the template 'total and deterministic' (their statements: YtlkmpafendggiaaDoorTotals.lean).
  GIVEN WITH THE SEED: the statements are not yours to turn. If you find one false, say at which input.
  Laid BY PROGRAM, IN A SANDBOX (cutbox-rows.mjs): the forced cells as the released guide's own fill.sh prints them over the translation 27f401eb3b2e2ce5… (all of the seat's roots in one cut). By AI agents, Wed Nov 11 2026. No macro, syntax, notation, axiom, sorry.
-/
import Derived.Test.YtlkmpafendggiaaDoorChecked
import GoSem.Claim
import GoSem.ClaimJoined
import GoSem.ClaimMapViews
import Derived.JoinedTies
import Derived.KernelRfl
namespace Go.Proofs.YtlkmpafendggiaaDoor
/- THE CELL 'sum', in the pinned program and in every row, IS THE sha256 OF THE DUMP (.gsa) THAT YtlkmpafendggiaaDoorProg.lean LOADS. Nothing in Lean hashes anything: it is a label: what it is worth is what the hold of that sum in a sandbox is worth. -/
noncomputable def Tryd.pinned : Pinned := { name := "ytlkmpafendggiaadoor", sum := "27f401eb3b2e2ce5efaf7281f3139002d32c26f9db1fbdc486896687d1b675a4", checked := Tryd.checked }
namespace Rows
def none {H : Type} : Left H := { results := [], args := [] }

/- WHAT THE LISTED PACKAGE-LEVEL VARIABLES READ AS WHEN THE CALL BEGINS. Each datum BY PROGRAM (the guide's laid-datum.mjs) off the statement by which the dump's own 'gosem.cut.vars' lays the variable. In a bare row this is a premise. The card (YtlkmpafendggiaaDoorCards.lean) ties it to the program's text. -/
def laid_escapement_isa_rows {H : Type} : DataW H := .agg [.agg [.lit (.string [110, 111, 112]), .lit (.int .i64 0), .lit (.int .i64 0), .lit (.bool false), .lit (.bool false), .lit (.bool false), .lit (.bool false)], .agg [.lit (.string [99, 111, 110, 115, 116]), .lit (.int .i64 1), .lit (.int .i64 0), .lit (.bool true), .lit (.bool false), .lit (.bool false), .lit (.bool false)], .agg [.lit (.string [97, 100, 100]), .lit (.int .i64 3), .lit (.int .i64 0), .lit (.bool false), .lit (.bool false), .lit (.bool false), .lit (.bool false)], .agg [.lit (.string [115, 117, 98]), .lit (.int .i64 3), .lit (.int .i64 0), .lit (.bool false), .lit (.bool false), .lit (.bool false), .lit (.bool false)], .agg [.lit (.string [109, 117, 108]), .lit (.int .i64 3), .lit (.int .i64 0), .lit (.bool false), .lit (.bool false), .lit (.bool false), .lit (.bool false)], .agg [.lit (.string [108, 101, 115, 115]), .lit (.int .i64 3), .lit (.int .i64 0), .lit (.bool false), .lit (.bool false), .lit (.bool false), .lit (.bool false)], .agg [.lit (.string [106, 117, 109, 112]), .lit (.int .i64 0), .lit (.int .i64 1), .lit (.bool false), .lit (.bool false), .lit (.bool true), .lit (.bool false)], .agg [.lit (.string [105, 102]), .lit (.int .i64 1), .lit (.int .i64 1), .lit (.bool false), .lit (.bool false), .lit (.bool false), .lit (.bool false)], .agg [.lit (.string [99, 97, 108, 108]), .lit (.int .i64 0), .lit (.int .i64 2), .lit (.bool false), .lit (.bool false), .lit (.bool false), .lit (.bool false)], .agg [.lit (.string [114, 101, 116]), .lit (.int .i64 0), .lit (.int .i64 0), .lit (.bool false), .lit (.bool false), .lit (.bool true), .lit (.bool false)], .agg [.lit (.string [115, 112, 97, 119, 110]), .lit (.int .i64 1), .lit (.int .i64 2), .lit (.bool false), .lit (.bool false), .lit (.bool false), .lit (.bool true)], .agg [.lit (.string [121, 105, 101, 108, 100]), .lit (.int .i64 0), .lit (.int .i64 0), .lit (.bool false), .lit (.bool true), .lit (.bool false), .lit (.bool false)], .agg [.lit (.string [98, 108, 111, 99, 107]), .lit (.int .i64 0), .lit (.int .i64 0), .lit (.bool false), .lit (.bool true), .lit (.bool false), .lit (.bool false)], .agg [.lit (.string [114, 101, 97, 100, 121]), .lit (.int .i64 1), .lit (.int .i64 0), .lit (.bool false), .lit (.bool false), .lit (.bool false), .lit (.bool true)], .agg [.lit (.string [101, 120, 105, 116]), .lit (.int .i64 0), .lit (.int .i64 0), .lit (.bool false), .lit (.bool false), .lit (.bool true), .lit (.bool false)], .agg [.lit (.string [101, 109, 105, 116]), .lit (.int .i64 1), .lit (.int .i64 0), .lit (.bool false), .lit (.bool false), .lit (.bool false), .lit (.bool false)], .agg [.lit (.string [115, 121, 115]), .lit (.int .i64 1), .lit (.int .i64 0), .lit (.bool false), .lit (.bool true), .lit (.bool false), .lit (.bool false)], .agg [.lit (.string [115, 116, 111, 112]), .lit (.int .i64 0), .lit (.int .i64 0), .lit (.bool false), .lit (.bool true), .lit (.bool false), .lit (.bool false)], .agg [.lit (.string [115, 116, 97, 114, 116]), .lit (.int .i64 0), .lit (.int .i64 0), .lit (.bool false), .lit (.bool false), .lit (.bool false), .lit (.bool false)], .agg [.lit (.string [98, 97, 114, 114, 105, 101, 114]), .lit (.int .i64 0), .lit (.int .i64 0), .lit (.bool false), .lit (.bool true), .lit (.bool false), .lit (.bool false)], .agg [.lit (.string [115, 117, 115, 112, 101, 110, 100]), .lit (.int .i64 1), .lit (.int .i64 0), .lit (.bool false), .lit (.bool true), .lit (.bool false), .lit (.bool true)], .agg [.lit (.string [114, 101, 115, 117, 109, 101]), .lit (.int .i64 1), .lit (.int .i64 0), .lit (.bool false), .lit (.bool false), .lit (.bool false), .lit (.bool true)], .agg [.lit (.string [114, 101, 115, 105, 122, 101]), .lit (.int .i64 1), .lit (.int .i64 0), .lit (.bool false), .lit (.bool false), .lit (.bool false), .lit (.bool true)], .agg [.lit (.string [115, 101, 108, 102]), .lit (.int .i64 1), .lit (.int .i64 0), .lit (.bool false), .lit (.bool false), .lit (.bool false), .lit (.bool true)]]

/-- 'escapementlaw06.IsaLooks': WHATEVER THE INPUT: true; the input reads as it did. -/
def isaLooksSpec : ChangeSpec := { name := "isaLooks", fn := fun _ => fun
  | [d] => { results := [.lit (.bool true)], args := [d] }
  | _ => none }
def isaLooksRow : OpenClaim := { program := "ytlkmpafendggiaadoor", sum := "27f401eb3b2e2ce5efaf7281f3139002d32c26f9db1fbdc486896687d1b675a4", func := "escapement/escapementlaw06.IsaLooks", spec := "isaLooks", named := ["escapement/isa.rows"], apart := false, laid := [("escapement/isa.rows", laid_escapement_isa_rows)] }
def IsaLooksSaid : Prop := isaLooksRow.holds Tryd.pinned (OpenSpec.ofChange isaLooksSpec)

/-- ITS FALSE NEIGHBOUR: 'it returns false'. Refute it at one input. -/
def isaLooksWrong : ChangeSpec := { name := "isaLooks", fn := fun _ => fun
  | [d] => { results := [.lit (.bool false)], args := [d] }
  | _ => none }
def IsaLooksWrongFalsely : Prop := isaLooksRow.holds Tryd.pinned (OpenSpec.ofChange isaLooksWrong)

/-- 'escapementlaw06.IsaChecks': WHATEVER THE INPUT: true; the input reads as it did. -/
def isaChecksSpec : ChangeSpec := { name := "isaChecks", fn := fun _ => fun
  | [d1, d2, d3] => { results := [.lit (.bool true)], args := [d1, d2, d3] }
  | _ => none }
def isaChecksRow : OpenClaim := { program := "ytlkmpafendggiaadoor", sum := "27f401eb3b2e2ce5efaf7281f3139002d32c26f9db1fbdc486896687d1b675a4", func := "escapement/escapementlaw06.IsaChecks", spec := "isaChecks", named := ["escapement/isa.rows"], apart := false, laid := [("escapement/isa.rows", laid_escapement_isa_rows)] }
def IsaChecksSaid : Prop := isaChecksRow.holds Tryd.pinned (OpenSpec.ofChange isaChecksSpec)

/-- ITS FALSE NEIGHBOUR: 'it returns false'. Refute it at one input. -/
def isaChecksWrong : ChangeSpec := { name := "isaChecks", fn := fun _ => fun
  | [d1, d2, d3] => { results := [.lit (.bool false)], args := [d1, d2, d3] }
  | _ => none }
def IsaChecksWrongFalsely : Prop := isaChecksRow.holds Tryd.pinned (OpenSpec.ofChange isaChecksWrong)

/-- 'escapementlaw09.ValidStays': WHATEVER THE INPUT: true; the input reads as it did. -/
def validStaysSpec : ChangeSpec := { name := "validStays", fn := fun _ => fun
  | [d] => { results := [.lit (.bool true)], args := [d] }
  | _ => none }
def validStaysRow : OpenClaim := { program := "ytlkmpafendggiaadoor", sum := "27f401eb3b2e2ce5efaf7281f3139002d32c26f9db1fbdc486896687d1b675a4", func := "escapement/escapementlaw09.ValidStays", spec := "validStays", unfollowed := true, recurses := true, named := ["escapement/isa.rows"], apart := false, laid := [("escapement/isa.rows", laid_escapement_isa_rows)] }
def ValidStaysSaid : Prop := validStaysRow.holds Tryd.pinned (OpenSpec.ofChange validStaysSpec)

/-- ITS FALSE NEIGHBOUR: 'it returns false'. Refute it at one input. -/
def validStaysWrong : ChangeSpec := { name := "validStays", fn := fun _ => fun
  | [d] => { results := [.lit (.bool false)], args := [d] }
  | _ => none }
def ValidStaysWrongFalsely : Prop := validStaysRow.holds Tryd.pinned (OpenSpec.ofChange validStaysWrong)

/-- 'escapementlaw09.ValidMends': WHATEVER THE INPUT: true; the input reads as it did. -/
def validMendsSpec : ChangeSpec := { name := "validMends", fn := fun _ => fun
  | [d1, d2, d3] => { results := [.lit (.bool true)], args := [d1, d2, d3] }
  | _ => none }
def validMendsRow : OpenClaim := { program := "ytlkmpafendggiaadoor", sum := "27f401eb3b2e2ce5efaf7281f3139002d32c26f9db1fbdc486896687d1b675a4", func := "escapement/escapementlaw09.ValidMends", spec := "validMends", unfollowed := true, recurses := true, named := ["escapement/isa.rows"], apart := false, laid := [("escapement/isa.rows", laid_escapement_isa_rows)] }
def ValidMendsSaid : Prop := validMendsRow.holds Tryd.pinned (OpenSpec.ofChange validMendsSpec)

/-- ITS FALSE NEIGHBOUR: 'it returns false'. Refute it at one input. -/
def validMendsWrong : ChangeSpec := { name := "validMends", fn := fun _ => fun
  | [d1, d2, d3] => { results := [.lit (.bool false)], args := [d1, d2, d3] }
  | _ => none }
def ValidMendsWrongFalsely : Prop := validMendsRow.holds Tryd.pinned (OpenSpec.ofChange validMendsWrong)

/-- 'escapementlaw33.GenDice': WHATEVER THE INPUT: true; the input reads as it did. -/
def genDiceSpec : ChangeSpec := { name := "genDice", fn := fun _ => fun
  | [d1, d2] => { results := [.lit (.bool true)], args := [d1, d2] }
  | _ => none }
def genDiceRow : OpenClaim := { program := "ytlkmpafendggiaadoor", sum := "27f401eb3b2e2ce5efaf7281f3139002d32c26f9db1fbdc486896687d1b675a4", func := "escapement/escapementlaw33.GenDice", spec := "genDice", unfollowed := true, recurses := true, named := ["escapement/isa.rows"], apart := false, laid := [("escapement/isa.rows", laid_escapement_isa_rows)] }
def GenDiceSaid : Prop := genDiceRow.holds Tryd.pinned (OpenSpec.ofChange genDiceSpec)

/-- ITS FALSE NEIGHBOUR: 'it returns false'. Refute it at one input. -/
def genDiceWrong : ChangeSpec := { name := "genDice", fn := fun _ => fun
  | [d1, d2] => { results := [.lit (.bool false)], args := [d1, d2] }
  | _ => none }
def GenDiceWrongFalsely : Prop := genDiceRow.holds Tryd.pinned (OpenSpec.ofChange genDiceWrong)

/-- 'escapementlaw33.GenRuns': WHATEVER THE INPUT: true; the input reads as it did. -/
def genRunsSpec : ChangeSpec := { name := "genRuns", fn := fun _ => fun
  | [d1, d2, d3, d4] => { results := [.lit (.bool true)], args := [d1, d2, d3, d4] }
  | _ => none }
def genRunsRow : OpenClaim := { program := "ytlkmpafendggiaadoor", sum := "27f401eb3b2e2ce5efaf7281f3139002d32c26f9db1fbdc486896687d1b675a4", func := "escapement/escapementlaw33.GenRuns", spec := "genRuns", unfollowed := true, recurses := true, named := ["escapement/isa.rows"], apart := false, laid := [("escapement/isa.rows", laid_escapement_isa_rows)] }
def GenRunsSaid : Prop := genRunsRow.holds Tryd.pinned (OpenSpec.ofChange genRunsSpec)

/-- ITS FALSE NEIGHBOUR: 'it returns false'. Refute it at one input. -/
def genRunsWrong : ChangeSpec := { name := "genRuns", fn := fun _ => fun
  | [d1, d2, d3, d4] => { results := [.lit (.bool false)], args := [d1, d2, d3, d4] }
  | _ => none }
def GenRunsWrongFalsely : Prop := genRunsRow.holds Tryd.pinned (OpenSpec.ofChange genRunsWrong)

/- THE SECOND FORM. 'bulk': how many values and letters a reading holds, each counted each time it is reached (what is shared counts as often as it is met; a slice's spare places count too). A statement '..UptoSaid' is the law's where the arguments, and the package variables that the reading takes, are together of bulk at most 1048576: NARROWER than '..Said'. Prove '..Said' where nothing that the law and all that it calls make is longer than what came in: it says more and counts as full. Else prove '..UptoSaid'. A law counts once. -/
mutual
def uptoBulk {H : Type} : DataW H → Nat
  | .lit (.string bytes) => bytes.length + 1
  | .lit _ => 1
  | .nil => 1
  | .ptr d => uptoBulk d + 1
  | .slice elems spare => uptoBulkAll elems + uptoBulkAll spare + 1
  | .agg parts => uptoBulkAll parts + 1
  | .iface _ d => uptoBulk d + 1
  | .map entries => uptoBulkEntries entries + 1
  | .held _ => 1
def uptoBulkAll {H : Type} : List (DataW H) → Nat
  | [] => 0
  | d :: r => uptoBulk d + uptoBulkAll r
def uptoBulkEntries {H : Type} : List (Lit × DataW H) → Nat
  | [] => 0
  | x :: r => uptoBulkEntry x + uptoBulkEntries r
def uptoBulkEntry {H : Type} : Lit × DataW H → Nat
  | (.string bytes, d) => bytes.length + uptoBulk d + 1
  | (_, d) => uptoBulk d + 1
 end
def uptoSmall : (H : Type) → List (DataW H) → Bool := fun _ ds => decide (uptoBulkAll ds ≤ 1048576)
def OpenSpec.upto (s : _root_.Go.ChangeSpec) : _root_.Go.OpenSpec := { _root_.Go.OpenSpec.ofChange s with cond := some uptoSmall }

/-- 'escapementlaw06.IsaLooks', WHERE WHAT IT READS IS OF BULK AT MOST 1048576: true; the input reads as it did. -/
def isaLooksUptoRow : OpenClaim := { program := "ytlkmpafendggiaadoor", sum := "27f401eb3b2e2ce5efaf7281f3139002d32c26f9db1fbdc486896687d1b675a4", func := "escapement/escapementlaw06.IsaLooks", spec := "isaLooks", named := ["escapement/isa.rows"], apart := false, laid := [("escapement/isa.rows", laid_escapement_isa_rows)], narrowed := true }
def IsaLooksUptoSaid : Prop := isaLooksUptoRow.holds Tryd.pinned (OpenSpec.upto isaLooksSpec)

/-- 'escapementlaw06.IsaChecks', WHERE WHAT IT READS IS OF BULK AT MOST 1048576: true; the input reads as it did. -/
def isaChecksUptoRow : OpenClaim := { program := "ytlkmpafendggiaadoor", sum := "27f401eb3b2e2ce5efaf7281f3139002d32c26f9db1fbdc486896687d1b675a4", func := "escapement/escapementlaw06.IsaChecks", spec := "isaChecks", named := ["escapement/isa.rows"], apart := false, laid := [("escapement/isa.rows", laid_escapement_isa_rows)], narrowed := true }
def IsaChecksUptoSaid : Prop := isaChecksUptoRow.holds Tryd.pinned (OpenSpec.upto isaChecksSpec)

/-- 'escapementlaw09.ValidStays', WHERE WHAT IT READS IS OF BULK AT MOST 1048576: true; the input reads as it did. -/
def validStaysUptoRow : OpenClaim := { program := "ytlkmpafendggiaadoor", sum := "27f401eb3b2e2ce5efaf7281f3139002d32c26f9db1fbdc486896687d1b675a4", func := "escapement/escapementlaw09.ValidStays", spec := "validStays", unfollowed := true, recurses := true, named := ["escapement/isa.rows"], apart := false, laid := [("escapement/isa.rows", laid_escapement_isa_rows)], narrowed := true }
def ValidStaysUptoSaid : Prop := validStaysUptoRow.holds Tryd.pinned (OpenSpec.upto validStaysSpec)

/-- 'escapementlaw09.ValidMends', WHERE WHAT IT READS IS OF BULK AT MOST 1048576: true; the input reads as it did. -/
def validMendsUptoRow : OpenClaim := { program := "ytlkmpafendggiaadoor", sum := "27f401eb3b2e2ce5efaf7281f3139002d32c26f9db1fbdc486896687d1b675a4", func := "escapement/escapementlaw09.ValidMends", spec := "validMends", unfollowed := true, recurses := true, named := ["escapement/isa.rows"], apart := false, laid := [("escapement/isa.rows", laid_escapement_isa_rows)], narrowed := true }
def ValidMendsUptoSaid : Prop := validMendsUptoRow.holds Tryd.pinned (OpenSpec.upto validMendsSpec)

/-- 'escapementlaw33.GenDice', WHERE WHAT IT READS IS OF BULK AT MOST 1048576: true; the input reads as it did. -/
def genDiceUptoRow : OpenClaim := { program := "ytlkmpafendggiaadoor", sum := "27f401eb3b2e2ce5efaf7281f3139002d32c26f9db1fbdc486896687d1b675a4", func := "escapement/escapementlaw33.GenDice", spec := "genDice", unfollowed := true, recurses := true, named := ["escapement/isa.rows"], apart := false, laid := [("escapement/isa.rows", laid_escapement_isa_rows)], narrowed := true }
def GenDiceUptoSaid : Prop := genDiceUptoRow.holds Tryd.pinned (OpenSpec.upto genDiceSpec)

/-- 'escapementlaw33.GenRuns', WHERE WHAT IT READS IS OF BULK AT MOST 1048576: true; the input reads as it did. -/
def genRunsUptoRow : OpenClaim := { program := "ytlkmpafendggiaadoor", sum := "27f401eb3b2e2ce5efaf7281f3139002d32c26f9db1fbdc486896687d1b675a4", func := "escapement/escapementlaw33.GenRuns", spec := "genRuns", unfollowed := true, recurses := true, named := ["escapement/isa.rows"], apart := false, laid := [("escapement/isa.rows", laid_escapement_isa_rows)], narrowed := true }
def GenRunsUptoSaid : Prop := genRunsUptoRow.holds Tryd.pinned (OpenSpec.upto genRunsSpec)

end Rows
end Go.Proofs.YtlkmpafendggiaaDoor

/-
  No cell of these rows narrows 'for every input' (looked for: loops, veiled, ifaces, maps, wideKeys, modest, calm, conditions, laid).
  DERIVED. THE GIVEN ROWS OF THIS SEAT. 3 by the template 'for every input the law returns true; each argument reads behind the call as it read before'; 0 by the template 'total and deterministic' (their statements: YthnhjhlpimgkiaaTotals.lean).
  GIVEN WITH THE SEED: the statements are not yours to turn. If you find one false, say at which input.
  Laid BY PROGRAM, IN A SANDBOX (cutbox-rows.mjs): the forced cells as the released guide's own fill.sh prints them over the translation 6f45ea28fd06cd10… (all of the seat's roots in one cut). By AI agents, Wed Nov 11 2026. No macro, syntax, notation, axiom, sorry.
-/
import Derived.Test.YthnhjhlpimgkiaaChecked
import GoSem.Claim
import GoSem.ClaimJoined
import GoSem.ClaimMapViews
import Derived.JoinedTies
import Derived.KernelRfl
namespace Go.Proofs.Ythnhjhlpimgkiaa
/- THE CELL 'sum', in the pinned program and in every row, IS THE sha256 OF THE DUMP (.gsa) THAT YthnhjhlpimgkiaaProg.lean LOADS. Nothing in Lean hashes anything: it is a label: what it is worth is what the hold of that sum in a sandbox is worth. -/
noncomputable def Try.pinned : Pinned := { name := "ythnhjhlpimgkiaa", sum := "6f45ea28fd06cd10d21e056a34e08998c476590d23905365d9e061a934972c50", checked := Try.checked }
namespace Rows
def none {H : Type} : Left H := { results := [], args := [] }

/-- 'escapementlaw14.MicroMakes': WHATEVER THE INPUT: true; the input reads as it did. -/
def microMakesSpec : ChangeSpec := { name := "microMakes", fn := fun _ => fun
  | [d1, d2, d3] => { results := [.lit (.bool true)], args := [d1, d2, d3] }
  | _ => none }
def microMakesRow : OpenClaim := { program := "ythnhjhlpimgkiaa", sum := "6f45ea28fd06cd10d21e056a34e08998c476590d23905365d9e061a934972c50", func := "escapement/escapementlaw14.MicroMakes", spec := "microMakes", unfollowed := true, recurses := true, apart := false }
def MicroMakesSaid : Prop := microMakesRow.holds Try.pinned (OpenSpec.ofChange microMakesSpec)

/-- ITS FALSE NEIGHBOUR: 'it returns false'. Refute it at one input. -/
def microMakesWrong : ChangeSpec := { name := "microMakes", fn := fun _ => fun
  | [d1, d2, d3] => { results := [.lit (.bool false)], args := [d1, d2, d3] }
  | _ => none }
def MicroMakesWrongFalsely : Prop := microMakesRow.holds Try.pinned (OpenSpec.ofChange microMakesWrong)

/-- 'escapementlaw14.MicroSolos': WHATEVER THE INPUT: true; the input reads as it did. -/
def microSolosSpec : ChangeSpec := { name := "microSolos", fn := fun _ => fun
  | [d1, d2, d3] => { results := [.lit (.bool true)], args := [d1, d2, d3] }
  | _ => none }
def microSolosRow : OpenClaim := { program := "ythnhjhlpimgkiaa", sum := "6f45ea28fd06cd10d21e056a34e08998c476590d23905365d9e061a934972c50", func := "escapement/escapementlaw14.MicroSolos", spec := "microSolos", unfollowed := true, recurses := true, apart := false }
def MicroSolosSaid : Prop := microSolosRow.holds Try.pinned (OpenSpec.ofChange microSolosSpec)

/-- ITS FALSE NEIGHBOUR: 'it returns false'. Refute it at one input. -/
def microSolosWrong : ChangeSpec := { name := "microSolos", fn := fun _ => fun
  | [d1, d2, d3] => { results := [.lit (.bool false)], args := [d1, d2, d3] }
  | _ => none }
def MicroSolosWrongFalsely : Prop := microSolosRow.holds Try.pinned (OpenSpec.ofChange microSolosWrong)

/-- 'escapementlaw14.MicroSteps': WHATEVER THE INPUT: true; the input reads as it did. -/
def microStepsSpec : ChangeSpec := { name := "microSteps", fn := fun _ => fun
  | [d1, d2, d3, d4] => { results := [.lit (.bool true)], args := [d1, d2, d3, d4] }
  | _ => none }
def microStepsRow : OpenClaim := { program := "ythnhjhlpimgkiaa", sum := "6f45ea28fd06cd10d21e056a34e08998c476590d23905365d9e061a934972c50", func := "escapement/escapementlaw14.MicroSteps", spec := "microSteps", unfollowed := true, recurses := true, apart := false }
def MicroStepsSaid : Prop := microStepsRow.holds Try.pinned (OpenSpec.ofChange microStepsSpec)

/-- ITS FALSE NEIGHBOUR: 'it returns false'. Refute it at one input. -/
def microStepsWrong : ChangeSpec := { name := "microSteps", fn := fun _ => fun
  | [d1, d2, d3, d4] => { results := [.lit (.bool false)], args := [d1, d2, d3, d4] }
  | _ => none }
def MicroStepsWrongFalsely : Prop := microStepsRow.holds Try.pinned (OpenSpec.ofChange microStepsWrong)

/- THE SECOND FORM. 'bulk': how many values and letters a reading holds, each counted each time it is reached (what is shared counts as often as it is met; a slice's spare places count too). A statement '..UptoSaid' is the law's where the arguments, and the package variables that the reading takes, are together of bulk at most 1048576: NARROWER than '..Said'. Prove '..Said' where nothing that the law and all that it calls make is longer than what came in: it says more and counts as full. Else prove '..UptoSaid'. A law counts once. -/
mutual
def uptoBulk {H : Type} : DataW H → Nat
  | .lit (.string bytes) => bytes.length + 1
  | .lit _ => 1
  | .nil => 1
  | .ptr d => uptoBulk d + 1
  | .slice elems spare => uptoBulkAll elems + uptoBulkAll spare + 1
  | .agg parts => uptoBulkAll parts + 1
  | .iface _ d => uptoBulk d + 1
  | .map entries => uptoBulkEntries entries + 1
  | .held _ => 1
def uptoBulkAll {H : Type} : List (DataW H) → Nat
  | [] => 0
  | d :: r => uptoBulk d + uptoBulkAll r
def uptoBulkEntries {H : Type} : List (Lit × DataW H) → Nat
  | [] => 0
  | x :: r => uptoBulkEntry x + uptoBulkEntries r
def uptoBulkEntry {H : Type} : Lit × DataW H → Nat
  | (.string bytes, d) => bytes.length + uptoBulk d + 1
  | (_, d) => uptoBulk d + 1
 end
def uptoSmall : (H : Type) → List (DataW H) → Bool := fun _ ds => decide (uptoBulkAll ds ≤ 1048576)
def OpenSpec.upto (s : _root_.Go.ChangeSpec) : _root_.Go.OpenSpec := { _root_.Go.OpenSpec.ofChange s with cond := some uptoSmall }

/-- 'escapementlaw14.MicroMakes', WHERE WHAT IT READS IS OF BULK AT MOST 1048576: true; the input reads as it did. -/
def microMakesUptoRow : OpenClaim := { program := "ythnhjhlpimgkiaa", sum := "6f45ea28fd06cd10d21e056a34e08998c476590d23905365d9e061a934972c50", func := "escapement/escapementlaw14.MicroMakes", spec := "microMakes", unfollowed := true, recurses := true, apart := false, narrowed := true }
def MicroMakesUptoSaid : Prop := microMakesUptoRow.holds Try.pinned (OpenSpec.upto microMakesSpec)

/-- 'escapementlaw14.MicroSolos', WHERE WHAT IT READS IS OF BULK AT MOST 1048576: true; the input reads as it did. -/
def microSolosUptoRow : OpenClaim := { program := "ythnhjhlpimgkiaa", sum := "6f45ea28fd06cd10d21e056a34e08998c476590d23905365d9e061a934972c50", func := "escapement/escapementlaw14.MicroSolos", spec := "microSolos", unfollowed := true, recurses := true, apart := false, narrowed := true }
def MicroSolosUptoSaid : Prop := microSolosUptoRow.holds Try.pinned (OpenSpec.upto microSolosSpec)

/-- 'escapementlaw14.MicroSteps', WHERE WHAT IT READS IS OF BULK AT MOST 1048576: true; the input reads as it did. -/
def microStepsUptoRow : OpenClaim := { program := "ythnhjhlpimgkiaa", sum := "6f45ea28fd06cd10d21e056a34e08998c476590d23905365d9e061a934972c50", func := "escapement/escapementlaw14.MicroSteps", spec := "microSteps", unfollowed := true, recurses := true, apart := false, narrowed := true }
def MicroStepsUptoSaid : Prop := microStepsUptoRow.holds Try.pinned (OpenSpec.upto microStepsSpec)

end Rows
end Go.Proofs.Ythnhjhlpimgkiaa

/-
  No cell of these rows narrows 'for every input' (looked for: loops, veiled, ifaces, maps, wideKeys, modest, calm, conditions, laid).
  DERIVED. THE GIVEN ROWS OF THIS SEAT. 9 by the template 'for every input the law returns true; each argument reads behind the call as it read before'; 0 by the template 'total and deterministic' (their statements: YthbpaggeajjepaaTotals.lean).
  GIVEN WITH THE SEED: the statements are not yours to turn. If you find one false, say at which input.
  Laid BY PROGRAM, IN A SANDBOX (cutbox-rows.mjs): the forced cells as the released guide's own fill.sh prints them over the translation 8588461cf0a1db91… (all of the seat's roots in one cut). By AI agents, Wed Nov 11 2026. No macro, syntax, notation, axiom, sorry.
-/
import Derived.Test.YthbpaggeajjepaaChecked
import GoSem.Claim
import GoSem.ClaimJoined
import GoSem.ClaimMapViews
import Derived.JoinedTies
import Derived.KernelRfl
namespace Go.Proofs.Ythbpaggeajjepaa
/- THE CELL 'sum', in the pinned program and in every row, IS THE sha256 OF THE DUMP (.gsa) THAT YthbpaggeajjepaaProg.lean LOADS. Nothing in Lean hashes anything: it is a label: what it is worth is what the hold of that sum in a sandbox is worth. -/
noncomputable def Try.pinned : Pinned := { name := "ythbpaggeajjepaa", sum := "8588461cf0a1db9143f2bb85c629e20631d3f1913c9e63635ac94c83526f1833", checked := Try.checked }
namespace Rows
def none {H : Type} : Left H := { results := [], args := [] }

/-- 'escapementlaw24.SpreadWorlds': WHATEVER THE INPUT: true; the input reads as it did. -/
def spreadWorldsSpec : ChangeSpec := { name := "spreadWorlds", fn := fun _ => fun
  | [d1, d2, d3] => { results := [.lit (.bool true)], args := [d1, d2, d3] }
  | _ => none }
def spreadWorldsRow : OpenClaim := { program := "ythbpaggeajjepaa", sum := "8588461cf0a1db9143f2bb85c629e20631d3f1913c9e63635ac94c83526f1833", func := "escapement/escapementlaw24.SpreadWorlds", spec := "spreadWorlds", apart := false }
def SpreadWorldsSaid : Prop := spreadWorldsRow.holds Try.pinned (OpenSpec.ofChange spreadWorldsSpec)

/-- ITS FALSE NEIGHBOUR: 'it returns false'. Refute it at one input. -/
def spreadWorldsWrong : ChangeSpec := { name := "spreadWorlds", fn := fun _ => fun
  | [d1, d2, d3] => { results := [.lit (.bool false)], args := [d1, d2, d3] }
  | _ => none }
def SpreadWorldsWrongFalsely : Prop := spreadWorldsRow.holds Try.pinned (OpenSpec.ofChange spreadWorldsWrong)

/-- 'escapementlaw25.DecideActs': WHATEVER THE INPUT: true; the input reads as it did. -/
def decideActsSpec : ChangeSpec := { name := "decideActs", fn := fun _ => fun
  | [d1, d2, d3] => { results := [.lit (.bool true)], args := [d1, d2, d3] }
  | _ => none }
def decideActsRow : OpenClaim := { program := "ythbpaggeajjepaa", sum := "8588461cf0a1db9143f2bb85c629e20631d3f1913c9e63635ac94c83526f1833", func := "escapement/escapementlaw25.DecideActs", spec := "decideActs", apart := false }
def DecideActsSaid : Prop := decideActsRow.holds Try.pinned (OpenSpec.ofChange decideActsSpec)

/-- ITS FALSE NEIGHBOUR: 'it returns false'. Refute it at one input. -/
def decideActsWrong : ChangeSpec := { name := "decideActs", fn := fun _ => fun
  | [d1, d2, d3] => { results := [.lit (.bool false)], args := [d1, d2, d3] }
  | _ => none }
def DecideActsWrongFalsely : Prop := decideActsRow.holds Try.pinned (OpenSpec.ofChange decideActsWrong)

/-- 'escapementlaw25.DecideClears': WHATEVER THE INPUT: true; the input reads as it did. -/
def decideClearsSpec : ChangeSpec := { name := "decideClears", fn := fun _ => fun
  | [d1, d2] => { results := [.lit (.bool true)], args := [d1, d2] }
  | _ => none }
def decideClearsRow : OpenClaim := { program := "ythbpaggeajjepaa", sum := "8588461cf0a1db9143f2bb85c629e20631d3f1913c9e63635ac94c83526f1833", func := "escapement/escapementlaw25.DecideClears", spec := "decideClears", apart := false }
def DecideClearsSaid : Prop := decideClearsRow.holds Try.pinned (OpenSpec.ofChange decideClearsSpec)

/-- ITS FALSE NEIGHBOUR: 'it returns false'. Refute it at one input. -/
def decideClearsWrong : ChangeSpec := { name := "decideClears", fn := fun _ => fun
  | [d1, d2] => { results := [.lit (.bool false)], args := [d1, d2] }
  | _ => none }
def DecideClearsWrongFalsely : Prop := decideClearsRow.holds Try.pinned (OpenSpec.ofChange decideClearsWrong)

/-- 'escapementlaw25.DecideEnds': WHATEVER THE INPUT: true; the input reads as it did. -/
def decideEndsSpec : ChangeSpec := { name := "decideEnds", fn := fun _ => fun
  | [d1, d2, d3] => { results := [.lit (.bool true)], args := [d1, d2, d3] }
  | _ => none }
def decideEndsRow : OpenClaim := { program := "ythbpaggeajjepaa", sum := "8588461cf0a1db9143f2bb85c629e20631d3f1913c9e63635ac94c83526f1833", func := "escapement/escapementlaw25.DecideEnds", spec := "decideEnds", apart := false }
def DecideEndsSaid : Prop := decideEndsRow.holds Try.pinned (OpenSpec.ofChange decideEndsSpec)

/-- ITS FALSE NEIGHBOUR: 'it returns false'. Refute it at one input. -/
def decideEndsWrong : ChangeSpec := { name := "decideEnds", fn := fun _ => fun
  | [d1, d2, d3] => { results := [.lit (.bool false)], args := [d1, d2, d3] }
  | _ => none }
def DecideEndsWrongFalsely : Prop := decideEndsRow.holds Try.pinned (OpenSpec.ofChange decideEndsWrong)

/-- 'escapementlaw18.GstatLooks': WHATEVER THE INPUT: true; the input reads as it did. -/
def gstatLooksSpec : ChangeSpec := { name := "gstatLooks", fn := fun _ => fun
  | [d] => { results := [.lit (.bool true)], args := [d] }
  | _ => none }
def gstatLooksRow : OpenClaim := { program := "ythbpaggeajjepaa", sum := "8588461cf0a1db9143f2bb85c629e20631d3f1913c9e63635ac94c83526f1833", func := "escapement/escapementlaw18.GstatLooks", spec := "gstatLooks", apart := false }
def GstatLooksSaid : Prop := gstatLooksRow.holds Try.pinned (OpenSpec.ofChange gstatLooksSpec)

/-- ITS FALSE NEIGHBOUR: 'it returns false'. Refute it at one input. -/
def gstatLooksWrong : ChangeSpec := { name := "gstatLooks", fn := fun _ => fun
  | [d] => { results := [.lit (.bool false)], args := [d] }
  | _ => none }
def GstatLooksWrongFalsely : Prop := gstatLooksRow.holds Try.pinned (OpenSpec.ofChange gstatLooksWrong)

/-- 'escapementlaw26.SuspLocks': WHATEVER THE INPUT: true; the input reads as it did. -/
def suspLocksSpec : ChangeSpec := { name := "suspLocks", fn := fun _ => fun
  | [d1, d2] => { results := [.lit (.bool true)], args := [d1, d2] }
  | _ => none }
def suspLocksRow : OpenClaim := { program := "ythbpaggeajjepaa", sum := "8588461cf0a1db9143f2bb85c629e20631d3f1913c9e63635ac94c83526f1833", func := "escapement/escapementlaw26.SuspLocks", spec := "suspLocks", apart := false }
def SuspLocksSaid : Prop := suspLocksRow.holds Try.pinned (OpenSpec.ofChange suspLocksSpec)

/-- ITS FALSE NEIGHBOUR: 'it returns false'. Refute it at one input. -/
def suspLocksWrong : ChangeSpec := { name := "suspLocks", fn := fun _ => fun
  | [d1, d2] => { results := [.lit (.bool false)], args := [d1, d2] }
  | _ => none }
def SuspLocksWrongFalsely : Prop := suspLocksRow.holds Try.pinned (OpenSpec.ofChange suspLocksWrong)

/-- 'escapementlaw18.GstatMoves': WHATEVER THE INPUT: true; the input reads as it did. -/
def gstatMovesSpec : ChangeSpec := { name := "gstatMoves", fn := fun _ => fun
  | [d1, d2] => { results := [.lit (.bool true)], args := [d1, d2] }
  | _ => none }
def gstatMovesRow : OpenClaim := { program := "ythbpaggeajjepaa", sum := "8588461cf0a1db9143f2bb85c629e20631d3f1913c9e63635ac94c83526f1833", func := "escapement/escapementlaw18.GstatMoves", spec := "gstatMoves", apart := false }
def GstatMovesSaid : Prop := gstatMovesRow.holds Try.pinned (OpenSpec.ofChange gstatMovesSpec)

/-- ITS FALSE NEIGHBOUR: 'it returns false'. Refute it at one input. -/
def gstatMovesWrong : ChangeSpec := { name := "gstatMoves", fn := fun _ => fun
  | [d1, d2] => { results := [.lit (.bool false)], args := [d1, d2] }
  | _ => none }
def GstatMovesWrongFalsely : Prop := gstatMovesRow.holds Try.pinned (OpenSpec.ofChange gstatMovesWrong)

/-- 'escapementlaw18.GstatScans': WHATEVER THE INPUT: true; the input reads as it did. -/
def gstatScansSpec : ChangeSpec := { name := "gstatScans", fn := fun _ => fun
  | [d] => { results := [.lit (.bool true)], args := [d] }
  | _ => none }
def gstatScansRow : OpenClaim := { program := "ythbpaggeajjepaa", sum := "8588461cf0a1db9143f2bb85c629e20631d3f1913c9e63635ac94c83526f1833", func := "escapement/escapementlaw18.GstatScans", spec := "gstatScans", apart := false }
def GstatScansSaid : Prop := gstatScansRow.holds Try.pinned (OpenSpec.ofChange gstatScansSpec)

/-- ITS FALSE NEIGHBOUR: 'it returns false'. Refute it at one input. -/
def gstatScansWrong : ChangeSpec := { name := "gstatScans", fn := fun _ => fun
  | [d] => { results := [.lit (.bool false)], args := [d] }
  | _ => none }
def GstatScansWrongFalsely : Prop := gstatScansRow.holds Try.pinned (OpenSpec.ofChange gstatScansWrong)

/-- 'escapementlaw24.SpreadAll': WHATEVER THE INPUT: true; the input reads as it did. -/
def spreadAllSpec : ChangeSpec := { name := "spreadAll", fn := fun _ => fun
  | [d1, d2, d3] => { results := [.lit (.bool true)], args := [d1, d2, d3] }
  | _ => none }
def spreadAllRow : OpenClaim := { program := "ythbpaggeajjepaa", sum := "8588461cf0a1db9143f2bb85c629e20631d3f1913c9e63635ac94c83526f1833", func := "escapement/escapementlaw24.SpreadAll", spec := "spreadAll", unfollowed := true, recurses := true, apart := false }
def SpreadAllSaid : Prop := spreadAllRow.holds Try.pinned (OpenSpec.ofChange spreadAllSpec)

/-- ITS FALSE NEIGHBOUR: 'it returns false'. Refute it at one input. -/
def spreadAllWrong : ChangeSpec := { name := "spreadAll", fn := fun _ => fun
  | [d1, d2, d3] => { results := [.lit (.bool false)], args := [d1, d2, d3] }
  | _ => none }
def SpreadAllWrongFalsely : Prop := spreadAllRow.holds Try.pinned (OpenSpec.ofChange spreadAllWrong)

/- THE SECOND FORM. 'bulk': how many values and letters a reading holds, each counted each time it is reached (what is shared counts as often as it is met; a slice's spare places count too). A statement '..UptoSaid' is the law's where the arguments, and the package variables that the reading takes, are together of bulk at most 1048576: NARROWER than '..Said'. Prove '..Said' where nothing that the law and all that it calls make is longer than what came in: it says more and counts as full. Else prove '..UptoSaid'. A law counts once. -/
mutual
def uptoBulk {H : Type} : DataW H → Nat
  | .lit (.string bytes) => bytes.length + 1
  | .lit _ => 1
  | .nil => 1
  | .ptr d => uptoBulk d + 1
  | .slice elems spare => uptoBulkAll elems + uptoBulkAll spare + 1
  | .agg parts => uptoBulkAll parts + 1
  | .iface _ d => uptoBulk d + 1
  | .map entries => uptoBulkEntries entries + 1
  | .held _ => 1
def uptoBulkAll {H : Type} : List (DataW H) → Nat
  | [] => 0
  | d :: r => uptoBulk d + uptoBulkAll r
def uptoBulkEntries {H : Type} : List (Lit × DataW H) → Nat
  | [] => 0
  | x :: r => uptoBulkEntry x + uptoBulkEntries r
def uptoBulkEntry {H : Type} : Lit × DataW H → Nat
  | (.string bytes, d) => bytes.length + uptoBulk d + 1
  | (_, d) => uptoBulk d + 1
 end
def uptoSmall : (H : Type) → List (DataW H) → Bool := fun _ ds => decide (uptoBulkAll ds ≤ 1048576)
def OpenSpec.upto (s : _root_.Go.ChangeSpec) : _root_.Go.OpenSpec := { _root_.Go.OpenSpec.ofChange s with cond := some uptoSmall }

/-- 'escapementlaw24.SpreadWorlds', WHERE WHAT IT READS IS OF BULK AT MOST 1048576: true; the input reads as it did. -/
def spreadWorldsUptoRow : OpenClaim := { program := "ythbpaggeajjepaa", sum := "8588461cf0a1db9143f2bb85c629e20631d3f1913c9e63635ac94c83526f1833", func := "escapement/escapementlaw24.SpreadWorlds", spec := "spreadWorlds", apart := false, narrowed := true }
def SpreadWorldsUptoSaid : Prop := spreadWorldsUptoRow.holds Try.pinned (OpenSpec.upto spreadWorldsSpec)

/-- 'escapementlaw25.DecideActs', WHERE WHAT IT READS IS OF BULK AT MOST 1048576: true; the input reads as it did. -/
def decideActsUptoRow : OpenClaim := { program := "ythbpaggeajjepaa", sum := "8588461cf0a1db9143f2bb85c629e20631d3f1913c9e63635ac94c83526f1833", func := "escapement/escapementlaw25.DecideActs", spec := "decideActs", apart := false, narrowed := true }
def DecideActsUptoSaid : Prop := decideActsUptoRow.holds Try.pinned (OpenSpec.upto decideActsSpec)

/-- 'escapementlaw25.DecideClears', WHERE WHAT IT READS IS OF BULK AT MOST 1048576: true; the input reads as it did. -/
def decideClearsUptoRow : OpenClaim := { program := "ythbpaggeajjepaa", sum := "8588461cf0a1db9143f2bb85c629e20631d3f1913c9e63635ac94c83526f1833", func := "escapement/escapementlaw25.DecideClears", spec := "decideClears", apart := false, narrowed := true }
def DecideClearsUptoSaid : Prop := decideClearsUptoRow.holds Try.pinned (OpenSpec.upto decideClearsSpec)

/-- 'escapementlaw25.DecideEnds', WHERE WHAT IT READS IS OF BULK AT MOST 1048576: true; the input reads as it did. -/
def decideEndsUptoRow : OpenClaim := { program := "ythbpaggeajjepaa", sum := "8588461cf0a1db9143f2bb85c629e20631d3f1913c9e63635ac94c83526f1833", func := "escapement/escapementlaw25.DecideEnds", spec := "decideEnds", apart := false, narrowed := true }
def DecideEndsUptoSaid : Prop := decideEndsUptoRow.holds Try.pinned (OpenSpec.upto decideEndsSpec)

/-- 'escapementlaw18.GstatLooks', WHERE WHAT IT READS IS OF BULK AT MOST 1048576: true; the input reads as it did. -/
def gstatLooksUptoRow : OpenClaim := { program := "ythbpaggeajjepaa", sum := "8588461cf0a1db9143f2bb85c629e20631d3f1913c9e63635ac94c83526f1833", func := "escapement/escapementlaw18.GstatLooks", spec := "gstatLooks", apart := false, narrowed := true }
def GstatLooksUptoSaid : Prop := gstatLooksUptoRow.holds Try.pinned (OpenSpec.upto gstatLooksSpec)

/-- 'escapementlaw26.SuspLocks', WHERE WHAT IT READS IS OF BULK AT MOST 1048576: true; the input reads as it did. -/
def suspLocksUptoRow : OpenClaim := { program := "ythbpaggeajjepaa", sum := "8588461cf0a1db9143f2bb85c629e20631d3f1913c9e63635ac94c83526f1833", func := "escapement/escapementlaw26.SuspLocks", spec := "suspLocks", apart := false, narrowed := true }
def SuspLocksUptoSaid : Prop := suspLocksUptoRow.holds Try.pinned (OpenSpec.upto suspLocksSpec)

/-- 'escapementlaw18.GstatMoves', WHERE WHAT IT READS IS OF BULK AT MOST 1048576: true; the input reads as it did. -/
def gstatMovesUptoRow : OpenClaim := { program := "ythbpaggeajjepaa", sum := "8588461cf0a1db9143f2bb85c629e20631d3f1913c9e63635ac94c83526f1833", func := "escapement/escapementlaw18.GstatMoves", spec := "gstatMoves", apart := false, narrowed := true }
def GstatMovesUptoSaid : Prop := gstatMovesUptoRow.holds Try.pinned (OpenSpec.upto gstatMovesSpec)

/-- 'escapementlaw18.GstatScans', WHERE WHAT IT READS IS OF BULK AT MOST 1048576: true; the input reads as it did. -/
def gstatScansUptoRow : OpenClaim := { program := "ythbpaggeajjepaa", sum := "8588461cf0a1db9143f2bb85c629e20631d3f1913c9e63635ac94c83526f1833", func := "escapement/escapementlaw18.GstatScans", spec := "gstatScans", apart := false, narrowed := true }
def GstatScansUptoSaid : Prop := gstatScansUptoRow.holds Try.pinned (OpenSpec.upto gstatScansSpec)

/-- 'escapementlaw24.SpreadAll', WHERE WHAT IT READS IS OF BULK AT MOST 1048576: true; the input reads as it did. -/
def spreadAllUptoRow : OpenClaim := { program := "ythbpaggeajjepaa", sum := "8588461cf0a1db9143f2bb85c629e20631d3f1913c9e63635ac94c83526f1833", func := "escapement/escapementlaw24.SpreadAll", spec := "spreadAll", unfollowed := true, recurses := true, apart := false, narrowed := true }
def SpreadAllUptoSaid : Prop := spreadAllUptoRow.holds Try.pinned (OpenSpec.upto spreadAllSpec)

end Rows
end Go.Proofs.Ythbpaggeajjepaa

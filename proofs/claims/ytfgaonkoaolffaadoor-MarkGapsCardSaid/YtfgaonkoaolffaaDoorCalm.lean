/-
  A region that draws its order, walked once in the order of the text, at ANY class of worlds (for instance: all worlds that are as w was below w's own size). Conditions: each operation yields one value in every world of the class, and leaves a world of the class.
-/
import Derived.WalkKit
import Derived.Deep.QuietTactic
import Derived.BigQuiet
import Derived.Lib.Hide
namespace Go.Proofs.YtfgaonkoaolffaaDoor
open Go.RowKit
theorem region_calm {P : Program} {id : Nat} {Q : Exit → Act → World → Prop} {a : Act} {w : World} {l : List Oper} (C : World → Prop) (hm : P.follows .mixedOrders = true) (hB : Region.lexB .any l.toArray = true)
    (hC : C w.drew) (h : wpQuiet P l.toArray C (fun a' => ∀ w', C w' → Q .normal a' w') l a) : (Code.region id l.toArray true).wp P Q a w :=
  wp_region_quiet (C := C) hm hB hC (by simpa using h)
/-- The same at the class 'as w was below B'. -/
theorem region_below {P : Program} {id : Nat} {Q : Exit → Act → World → Prop} {a : Act} {w : World} {l : List Oper} (w0 : World) (B : Nat) (hm : P.follows .mixedOrders = true) (hB : Region.lexB .any l.toArray = true)
    (hb : Below B w0 w) (h : wpQuiet P l.toArray (fun w' => Below B w0 w') (fun a' => ∀ w', Below B w0 w' → Q .normal a' w') l a) : (Code.region id l.toArray true).wp P Q a w :=
  region_calm (fun w' => Below B w0 w') hm hB hb.drew h
/-- A callee's contract in a world of the class. -/
theorem calm_of {P : Program} {f : FuncId} {args : Array Value} {w0 w : World} {B : Nat} {v : Value} (hw : Below B w0 w) (hB : B ≤ w0.heap.size)
    (h : Calls P f args w fun e w' => e = .returned v ∧ Below w.heap.size w w') : Calls P f args w fun e w' => e = .returned v ∧ Below B w0 w' :=
  h.mono fun _ _ ⟨he, hb⟩ => ⟨he, hw.trans (hb.mono (Nat.le_trans hB hw.size))⟩
theorem calm_of_same {P : Program} {f : FuncId} {args : Array Value} {w0 w : World} {B : Nat} {v : Value} (hw : Below B w0 w)
    (h : Calls P f args w fun e w' => e = .returned v ∧ w = w') : Calls P f args w fun e w' => e = .returned v ∧ Below B w0 w' :=
  h.mono fun _ _ ⟨he, hb⟩ => ⟨he, hb ▸ hw⟩
theorem below_same {P : Program} {f : FuncId} {args : Array Value} {w : World} {v : Value} 
    (h : Calls P f args w fun e w' => e = .returned v ∧ w = w') : Calls P f args w fun e w' => e = .returned v ∧ Below w.heap.size w w' :=
  h.mono fun _ _ ⟨he, hb⟩ => ⟨he, hb ▸ Below.refl _ _⟩
end Go.Proofs.YtfgaonkoaolffaaDoor

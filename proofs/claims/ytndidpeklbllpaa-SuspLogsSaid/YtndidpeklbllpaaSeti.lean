/-
  A map from ints to ints that holds 1 at some keys and nothing else: what a store and a deletion turn. No function of the program in sight.
-/
import Derived.Test.YtndidpeklbllpaaRows
import Derived.WalkKit
import Derived.Maps.OwnSet
import Derived.Maps.OwnOps
namespace Go.Proofs.Ytndidpeklbllpaa
open Go.RowKit
open Go.Maps Go.WideShapes
/-- Block B is a map from ints to ints that holds 1 at the keys of p and nothing else; these are c. -/
def SetIs (P : Program) (T : TypeId) (w : World) (B n : Nat) (p : Int → Bool) (c : Nat) : Prop :=
  ∃ D : DataW Unit, w.ownsMap P T (plainElem P T) B n D ∧ (∀ i, Maps.has D (.int .i64 i) = p i ∧ D.atKey (.int .i64 i) (.lit (.int .i64 0)) = .lit (.int .i64 (if p i then 1 else 0))) ∧ Maps.size D = c
def addI (p : Int → Bool) (i : Int) : Int → Bool := fun j => if j = i then true else p j
def subI (p : Int → Bool) (i : Int) : Int → Bool := fun j => if j = i then false else p j
section
variable {P : Program} {T : TypeId} {w w' : World} {B n c : Nat} {p : Int → Bool}
theorem SetIs.made (w : World) : SetIs P T (w.alloc (.map #[] 0)) w.heap.size 0 (fun _ => false) 0 :=
  ⟨.map [], World.ownsMap_made _ _ _ _, fun _ => ⟨rfl, rfl⟩, rfl⟩
theorem put_facts {D : DataW Unit} {p : Int → Bool} {c : Nat} {i : Int} (K : Tidy D) (h : ∀ i, Maps.has D (.int .i64 i) = p i ∧ D.atKey (.int .i64 i) (.lit (.int .i64 0)) = .lit (.int .i64 (if p i then 1 else 0))) (hs : Maps.size D = c) :
    (∀ j, Maps.has (D.put (.int .i64 i) (.lit (.int .i64 1))) (.int .i64 j) = addI p i j ∧ (D.put (.int .i64 i) (.lit (.int .i64 1))).atKey (.int .i64 j) (.lit (.int .i64 0)) = .lit (.int .i64 (if addI p i j then 1 else 0))) ∧
      Maps.size (D.put (.int .i64 i) (.lit (.int .i64 1))) = if p i then c else c + 1 := by
  refine ⟨fun j => ?_, by rw [size_put K, (h i).1, hs]⟩
  unfold addI
  by_cases hj : j = i
  · subst hj
    rw [has_put_same K.isMap (show WideAt.IsKeyLit (.int .i64 j) from trivial), atKey_put_same K.isMap (show WideAt.IsKeyLit (.int .i64 j) from trivial)]
    simp
  · have hne : (Lit.int .i64 j) ≠ (Lit.int .i64 i) := fun e => hj (by injection e)
    rw [has_put_other hne, atKey_put_other hne, if_neg hj]
    exact h j
theorem del_facts {D : DataW Unit} {p : Int → Bool} {c : Nat} {i : Int} (K : Tidy D) (h : ∀ i, Maps.has D (.int .i64 i) = p i ∧ D.atKey (.int .i64 i) (.lit (.int .i64 0)) = .lit (.int .i64 (if p i then 1 else 0))) (hs : Maps.size D = c) :
    (∀ j, Maps.has (D.del (.int .i64 i)) (.int .i64 j) = subI p i j ∧ (D.del (.int .i64 i)).atKey (.int .i64 j) (.lit (.int .i64 0)) = .lit (.int .i64 (if subI p i j then 1 else 0))) ∧
      Maps.size (D.del (.int .i64 i)) + (if p i then 1 else 0) = c := by
  refine ⟨fun j => ?_, by rw [← (h i).1, size_del K, hs]⟩
  unfold subI
  by_cases hj : j = i
  · subst hj
    rw [has_del_same, atKey_del_same]
    simp
  · have hne : (Lit.int .i64 j) ≠ (Lit.int .i64 i) := fun e => hj (by injection e)
    rw [has_del_other hne, atKey_del_other hne, if_neg hj]
    exact h j
end
end Go.Proofs.Ytndidpeklbllpaa

/-
  Proved: the law SuspLocks holds for every int and bool: the call returns true and leaves its arguments as they were. Conditions: none.
-/
import Derived.Test.YthbpaggeajjepaaP18a
import Derived.Test.YthbpaggeajjepaaSusp
namespace Go.Proofs.Ythbpaggeajjepaa
open Go.ChangeShapes Go.WideShapes Go.ChangeAt Go.RowKit
theorem locks_law_below (n : Int) (r : Bool) (w : World) (hn : I64 n) : Calls Try.prog 8 #[.int .i64 n, .bool r] w fun e w' => e = .returned (.bool true) ∧ Below w.heap.size w w' :=
  below_same (locks_law n r w hn)
set_option maxRecDepth 100000 in
theorem suspLocks_lifted (os : Os) (started : os.Started) (H : Type) (enc : TypeId × Value → H) :
    ReturnsInHanded {} Try.checked os 8 .any (Rows.suspLocksSpec.pre6 enc Try.prog Try.f8 Rows.suspLocksRow.domain false) (Rows.suspLocksSpec.post enc Try.prog Try.f8 false true false false) := by
  refine returnsInHanded_of_change (C := Try.checked) Try.own started (by kernel_rfl) Try.func8
    (ChangeSpec.witness6 (enc := enc) (C := Try.checked) false ⟨#[], #[.int .i64 0, .bool false], []⟩ 8 (by kernel_rfl) (by kernel_rfl) (by kernel_rfl) (by kernel_rfl)) ?_
  intro W base args ds gs before hval0 hW _ _
  have hval : ∀ (j : Nat) t v, Try.f8.params[j]? = some t → args[j]? = some v → Value.okWide Try.prog W .any base t v := hval0
  have hW' := hW
  obtain ⟨p, q, hA0, hV, rfl, _, _⟩ := hW
  have hA : DataW.TrodAll enc Try.prog W 0 (fun _ => true) true Try.f8.params.toList args.toList ds p := hA0
  rw [Try.params8] at hA hval
  obtain ⟨v0, v1, d0, d1, p0, p1, rfl, rfl, rfl, h0, h1⟩ := trodAll_two hA
  obtain ⟨x, rfl, rfl, rfl, wx⟩ := open_int Try.underlying3 (hval 0 3 v0 rfl rfl) h0
  obtain ⟨y, rfl, rfl, rfl⟩ := open_bool Try.underlying4 (hval 1 4 v1 rfl rfl) h1
  obtain ⟨rfl, rfl⟩ := trodVars_none hV
  refine (locks_law_below x y W (i64_wf wx)).mono fun e W' ⟨he, hb⟩ => ?_
  subst he
  exact ⟨_, rfl, law_post Try.laidOut rfl Try.underlying4 (by kernel_rfl) (by kernel_rfl) ⟨rfl, rfl, rfl⟩ hW' hb⟩

theorem suspLocks_holds : Rows.SuspLocksSaid :=
  OpenClaim.holds_of_wide 8 Try.f8 rfl rfl rfl rfl rfl rfl rfl ⟨rfl, rfl, rfl, rfl, rfl⟩ rfl rfl rfl rfl rfl (by kernel_rfl) Try.func8 (by kernel_rfl)
    (of_decide_eq_true (by kernel_rfl)) (by unfold Func.isWrapper; first | (rw [if_pos (by decide +kernel)]; kernel_rfl) | (rw [if_neg (by decide +kernel)]; exact ⟨rfl, rfl⟩))
    (fun os started H enc _ => suspLocks_lifted os started H enc)
#print axioms suspLocks_holds

end Go.Proofs.Ythbpaggeajjepaa

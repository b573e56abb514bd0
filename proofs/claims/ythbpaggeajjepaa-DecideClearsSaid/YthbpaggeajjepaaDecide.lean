/-
  Contracts of package decide and of its reference.
-/
import Derived.Test.YthbpaggeajjepaaStops
namespace Go.Proofs.Ythbpaggeajjepaa
open Go.RowKit
def behindI (b2 b3 b4 b5 : Bool) : Int := if b2 then 1 else if b4 then 2 else if b3 || b5 then 3 else 4
def decideI (n : Nat) (ss : List Bool) (pc : Int) (b0 b1 b2 b3 b4 b5 : Bool) : Int := if stopsB n ss pc && (b0 || (pc == 0 && b1)) then behindI b2 b3 b4 b5 else 0
theorem behind_any (b0 b1 b2 b3 b4 b5 : Bool) (w : World) : Calls Try.prog 22 #[.agg #[.bool b0, .bool b1, .bool b2, .bool b3, .bool b4, .bool b5]] w fun e w' => e = .returned (.int .i64 (behindI b2 b3 b4 b5)) ∧ Below w.heap.size w w' := by
  cases b2 <;> cases b3 <;> cases b4 <;> cases b5
  all_goals
    go_enter Try.func22, Try.ntmps22
    go_wp2
    go_ret
    exact ⟨rfl, (Below.refl _ _).alloc (Nat.le_refl _) _⟩
theorem rbehind_any (b0 b1 b2 b3 b4 b5 : Bool) (w : World) : Calls Try.prog 23 #[.agg #[.bool b0, .bool b1, .bool b2, .bool b3, .bool b4, .bool b5]] w fun e w' => e = .returned (.int .i64 (behindI b2 b3 b4 b5)) ∧ Below w.heap.size w w' := by
  cases b2 <;> cases b3 <;> cases b4 <;> cases b5
  all_goals
    go_enter Try.func23, Try.ntmps23
    go_wp2
    go_ret
    exact ⟨rfl, (Below.refl _ _).alloc (Nat.le_refl _) _⟩
theorem of_any (b0 b1 b2 b3 b4 b5 : Bool) (w : World) : Calls Try.prog 21 #[.agg #[.bool b0, .bool b1, .bool b2, .bool b3, .bool b4, .bool b5]] w fun e w' => e = .returned (.agg #[.bool b0, .bool b1, .bool b2, .bool b3, .bool b4, .bool b5]) ∧ Below w.heap.size w w' := by
  go_enter Try.func21, Try.ntmps21
  go_wp2
  exact bodyPost_ret (v := .agg #[.bool b0, .bool b1, .bool b2, .bool b3, .bool b4, .bool b5]) (by simp [results, Try.results21, go_sem]) rfl ⟨rfl, ((Below.refl _ _).alloc (Nat.le_refl _) _).alloc (by simp) _⟩
theorem light_any (A B : Option Addr) (n m c d : Nat) (w : World) : Calls Try.prog 17 #[.agg #[.slice A n c, .slice B m d]] w fun e w' => e = .returned (.bool (decide (n ≤ 100) && decide (m ≤ 100))) ∧ Below w.heap.size w w' := by
  by_cases h : n ≤ 100
  · go_enter Try.func17, Try.ntmps17
    go_wp2
    go_ret
    exact ⟨by simp [h]; omega, (Below.refl _ _).alloc (Nat.le_refl _) _⟩
  · have h' : decide ((n : Int) ≤ 100) = false := by simp; omega
    go_enter Try.func17, Try.ntmps17
    go_wp2
    go_ret
    exact ⟨by simp [h], (Below.refl _ _).alloc (Nat.le_refl _) _⟩
end Go.Proofs.Ythbpaggeajjepaa

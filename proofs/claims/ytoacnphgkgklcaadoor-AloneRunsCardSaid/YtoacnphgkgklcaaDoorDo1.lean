/-
  Chapter 11: contracts of vm.moves (all cases), reckons and the four methods of pair.
-/
import Derived.Test.YtoacnphgkgklcaaDoorMov2
namespace Go.Proofs.YtoacnphgkgklcaaDoor
open Go.RowKit
theorem moves_any (w : World) (base g : Nat) (u : Th) (B : Option Addr) (d : Nat) (i : Ins) (hM : ThMem w base g u B d) (ha0 : 0 ≤ i.a) (ha8 : i.a < 8) (hl : u.stack.length ≤ 16) :
    Calls Tryd.prog 42 #[.pointer (some ⟨g, 0, none⟩), .agg (insArr i)] w (MovesOut w base g (moveT i u)) := by
  by_cases h7 : i.op = 7
  · exact moves_if w base g u B d i hM h7 ha0 ha8
  by_cases h6 : i.op = 6
  · exact moves_jump w base g u B d i hM h6
  by_cases h8 : i.op = 8
  · by_cases h16 : u.stack.length = 16
    · exact moves_full w base g u B d i hM h8 h16
    · exact moves_call w base g u B d i hM h8 (by omega)
  by_cases h9 : i.op = 9
  · cases hk : u.stack.length with
    | zero => exact moves_empty w base g u B d i hM h9 hk
    | succ k => exact moves_ret w base g u B d i hM h9 k hk (by omega)
  by_cases h14 : i.op = 14
  · exact moves_exit w base g u B d i hM h14
  · exact moves_other w base g u B d i hM h7 h6 h8 h9 h14
def lessV (b c : Int) : Int := if b < c then 1 else 0
/-- What an op makes of two numbers; none: nothing. -/
def reckonV (op b c : Int) : Option Int :=
  if op = 2 then some (wrap64 (b + c)) else if op = 3 then some (wrap64 (b - c)) else if op = 4 then some (wrap64 (b * c)) else if op = 5 then some (lessV b c) else none
theorem pair_add (b c : Int) (w : World) : Calls Tryd.prog 51 #[.agg #[.int .i64 b, .int .i64 c]] w fun e w' => e = .returned (.int .i64 (wrap64 (b + c))) ∧ Below w.heap.size w w' := by
  go_enter Tryd.func51, Tryd.ntmps51
  go_wp2_with fail
  go_ret
  exact ⟨rfl, (Below.refl _ _).alloc (Nat.le_refl _) _⟩
theorem pair_sub (b c : Int) (w : World) : Calls Tryd.prog 52 #[.agg #[.int .i64 b, .int .i64 c]] w fun e w' => e = .returned (.int .i64 (wrap64 (b - c))) ∧ Below w.heap.size w w' := by
  go_enter Tryd.func52, Tryd.ntmps52
  go_wp2_with fail
  go_ret
  exact ⟨rfl, (Below.refl _ _).alloc (Nat.le_refl _) _⟩
theorem pair_mul (b c : Int) (w : World) : Calls Tryd.prog 53 #[.agg #[.int .i64 b, .int .i64 c]] w fun e w' => e = .returned (.int .i64 (wrap64 (b * c))) ∧ Below w.heap.size w w' := by
  go_enter Tryd.func53, Tryd.ntmps53
  go_wp2_with fail
  go_ret
  exact ⟨rfl, (Below.refl _ _).alloc (Nat.le_refl _) _⟩
theorem pair_less (b c : Int) (w : World) : Calls Tryd.prog 54 #[.agg #[.int .i64 b, .int .i64 c]] w fun e w' => e = .returned (.int .i64 (lessV b c)) ∧ Below w.heap.size w w' := by
  unfold lessV
  by_cases h : b < c
  · rw [if_pos h]
    go_enter Tryd.func54, Tryd.ntmps54
    go_wp2_with fail
    go_ret
    exact ⟨rfl, (Below.refl _ _).alloc (Nat.le_refl _) _⟩
  · rw [if_neg h]
    have h' : decide (b < c) = false := by simpa using h
    go_enter Tryd.func54, Tryd.ntmps54
    go_wp2_with fail
    go_ret
    exact ⟨rfl, (Below.refl _ _).alloc (Nat.le_refl _) _⟩
theorem reckons_2 (w : World) : Calls Tryd.prog 40 #[.int .i64 2] w fun e w' => e = .returned (.func (.func 51) #[] #[]) ∧ w = w' := by
  go_enter Tryd.func40, Tryd.ntmps40
  go_wp2_with fail
  go_ret
  exact ⟨rfl, rfl⟩
theorem reckons_3 (w : World) : Calls Tryd.prog 40 #[.int .i64 3] w fun e w' => e = .returned (.func (.func 52) #[] #[]) ∧ w = w' := by
  go_enter Tryd.func40, Tryd.ntmps40
  go_wp2_with fail
  go_ret
  exact ⟨rfl, rfl⟩
theorem reckons_4 (w : World) : Calls Tryd.prog 40 #[.int .i64 4] w fun e w' => e = .returned (.func (.func 53) #[] #[]) ∧ w = w' := by
  go_enter Tryd.func40, Tryd.ntmps40
  go_wp2_with fail
  go_ret
  exact ⟨rfl, rfl⟩
theorem reckons_5 (w : World) : Calls Tryd.prog 40 #[.int .i64 5] w fun e w' => e = .returned (.func (.func 54) #[] #[]) ∧ w = w' := by
  go_enter Tryd.func40, Tryd.ntmps40
  go_wp2_with fail
  go_ret
  exact ⟨rfl, rfl⟩
theorem reckons_no (op : Int) (h2 : op ≠ 2) (h3 : op ≠ 3) (h4 : op ≠ 4) (h5 : op ≠ 5) (w : World) : Calls Tryd.prog 40 #[.int .i64 op] w fun e w' => e = .returned .nilFunc ∧ w = w' := by
  have d2 : (op == 2) = false := by simpa using h2
  have d3 : (op == 3) = false := by simpa using h3
  have d4 : (op == 4) = false := by simpa using h4
  have d5 : (op == 5) = false := by simpa using h5
  clear h2 h3 h4 h5
  go_enter Tryd.func40, Tryd.ntmps40
  go_wp2_with fail
  go_ret
  exact ⟨rfl, rfl⟩
end Go.Proofs.YtoacnphgkgklcaaDoor

/-
  Contracts of the reference's Names, Is, Check.
-/
import Derived.Test.YthcbceaeobnmgaaDoorIsaCheck
namespace Go.Proofs.YthcbceaeobnmgaaDoor
open Go.RowKit
def namesArr : Array Value := (tabT.map fun r => Value.string ⟨r.name.toArray⟩).toArray
theorem names_any (w : World) : Calls Tryd.prog 49 #[] w fun e w' => e = .returned (.slice (some ⟨w.heap.size, 0, none⟩) 24 24) ∧ w.alloc (.cells namesArr 9) = w' := by
  go_enter Tryd.func49, Tryd.ntmps49
  go_wp2
  go_ret
  exact ⟨rfl, by kernel_rfl⟩
theorem ris_any (op : Int) (w : World) : Calls Tryd.prog 31 #[.int .i64 op] w fun e w' => e = .returned (.bool (isOpB op)) ∧ Below w.heap.size w w' := by
  by_cases h0 : 0 ≤ op
  · have e : isOpB op = decide (op < 24) := by simp [isOpB, h0]
    rw [e]; clear e
    go_enter Tryd.func31, Tryd.ntmps31
    go_wp2_with (go_at_call 49; refine (names_any _).mono ?_; rintro e w1 ⟨rfl, rfl⟩)
    go_ret
    exact ⟨rfl, (Below.refl _ _).alloc (Nat.le_refl _) _⟩
  · have e : isOpB op = false := by simp [isOpB]; omega
    have h0' : decide (0 ≤ op) = false := by simpa using h0
    rw [e]; clear e
    go_enter Tryd.func31, Tryd.ntmps31
    go_wp2_with fail
    go_ret
    exact ⟨rfl, Below.refl _ _⟩
theorem number_iff (op : Int) (h : isOpB op = true) : opNumber op = (op == 1) := by
  have h' : ¬ (op < 0 ∨ 24 ≤ op) := by simp [isOpB] at h; omega
  rcases op24 op h' with rfl | rfl | rfl | rfl | rfl | rfl | rfl | rfl | rfl | rfl | rfl | rfl | rfl | rfl | rfl | rfl | rfl | rfl | rfl | rfl | rfl | rfl | rfl | rfl <;> decide
end Go.Proofs.YthcbceaeobnmgaaDoor

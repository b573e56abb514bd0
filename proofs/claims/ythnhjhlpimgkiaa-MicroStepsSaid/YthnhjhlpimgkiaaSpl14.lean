/-
  Chapter 14: spill, grabCells: they are take.
-/
import Derived.Test.YthnhjhlpimgkiaaTak14
namespace Go.Proofs.Ythnhjhlpimgkiaa
open Go.RowKit
theorem spill_of {w : World} {p : Value} {R : World → Prop} (h : Calls Try.prog 64 #[p, .func (.func 65) #[] #[]] w fun e w' => e = .returned (.tuple #[]) ∧ R w') :
    Calls Try.prog 56 #[p] w fun e w' => e = .returned (.tuple #[]) ∧ R w' := by
  have HT := Lib.hid h
  clear h
  go_enter Try.func56, Try.ntmps56
  go_wp2_with (go_at_call 64; refine HT.out.mono ?_; rintro e w1 ⟨rfl, h⟩)
  go_end0
  exact ⟨rfl, h⟩
theorem grabCells_of {w : World} {p : Value} {R : World → Prop} (h : Calls Try.prog 64 #[p, .func (.func 69) #[] #[]] w fun e w' => e = .returned (.tuple #[]) ∧ R w') :
    Calls Try.prog 60 #[p] w fun e w' => e = .returned (.tuple #[]) ∧ R w' := by
  have HT := Lib.hid h
  clear h
  go_enter Try.func60, Try.ntmps60
  go_wp2_with (go_at_call 64; refine HT.out.mono ?_; rintro e w1 ⟨rfl, h⟩)
  go_end0
  exact ⟨rfl, h⟩
end Go.Proofs.Ythnhjhlpimgkiaa

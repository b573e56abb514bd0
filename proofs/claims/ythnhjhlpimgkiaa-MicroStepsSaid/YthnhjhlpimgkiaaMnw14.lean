/-
  Chapter 14: micro.New, begin, end.
-/
import Derived.Test.YthnhjhlpimgkiaaNew14
namespace Go.Proofs.Ythnhjhlpimgkiaa
open Go.RowKit
/-- Which rings there are. -/
def Fits (size : Int) (L : Nat) : Prop := ¬ size < 2 ∧ ¬ size > 64 ∧ bits .and .i64 size (size - 1) = 0 ∧ ¬ (L : Int) < size + 3
theorem mnew_bad (c : Option Addr) (L : Nat) (size : Int) (w : World) (hl : Calls Try.prog 8 #[.pointer c] w fun e w' => e = .returned (.int .i64 L) ∧ w = w') (h : ¬ Fits size L) :
    Calls Try.prog 7 #[.pointer c, .int .i64 size] w fun e w' => e = .returned (.pointer none) ∧ w = w' := by
  by_cases h1 : size < 2
  · clear h hl
    go_enter Try.func7, Try.ntmps7
    go_wp2
    go_ret
    exact ⟨rfl, rfl⟩
  · by_cases h2 : size > 64
    · clear h hl
      go_enter Try.func7, Try.ntmps7
      go_wp2
      go_ret
      exact ⟨rfl, rfl⟩
    · by_cases h3 : bits .and .i64 size (size - 1) = 0
      · have h4 : (L : Int) < size + 3 := by
          apply Classical.byContradiction
          intro hn
          exact h ⟨h1, h2, h3, hn⟩
        have h3b : (bits .and .i64 size (size - 1) != 0) = false := by simp [h3]
        have hl' := Lib.hid hl
        clear h hl h3
        go_enter Try.func7, Try.ntmps7
        go_wp2_with (go_at_call 8; refine hl'.out.mono ?_; rintro e w1 ⟨rfl, rfl⟩)
        go_ret
        exact ⟨rfl, rfl⟩
      · have h3b : (bits .and .i64 size (size - 1) != 0) = true := by simp [h3]
        clear h hl h3
        go_enter Try.func7, Try.ntmps7
        go_wp2
        go_ret
        exact ⟨rfl, rfl⟩
theorem mnew_any (c : Option Addr) (L : Nat) (size : Int) (w : World) (hl : Calls Try.prog 8 #[.pointer c] w fun e w' => e = .returned (.int .i64 L) ∧ w = w') (h : Fits size L) :
    Calls Try.prog 7 #[.pointer c, .int .i64 size] w fun e w' => e = .returned (.pointer (some ⟨w.heap.size, 0, none⟩)) ∧ w' = w.alloc (.cells #[.pointer c, .int .i64 size] 59) := by
  obtain ⟨h1, h2, h3, h4⟩ := h
  have h3b : (bits .and .i64 size (size - 1) != 0) = false := by simp [h3]
  have hl' := Lib.hid hl
  clear hl h3
  go_enter Try.func7, Try.ntmps7
  go_wp2_with (go_at_call 8; refine hl'.out.mono ?_; rintro e w1 ⟨rfl, rfl⟩)
  go_ret
  exact ⟨rfl, rfl⟩
theorem begin_nil (f : Value) (w : World) : Calls Try.prog 25 #[.pointer none, f] w fun e w' => e = .returned (.pointer none) ∧ w = w' := by
  go_enter Try.func25, Try.ntmps25
  go_wp2
  go_ret
  exact ⟨rfl, rfl⟩
theorem begin_any (r : Addr) (k : Nat) (w : World) : Calls Try.prog 25 #[.pointer (some r), .func (.func k) #[] #[]] w fun e w' => e = .returned (.pointer (some ⟨w.heap.size, 0, none⟩)) ∧ w' = w.alloc (.cells #[.pointer (some r), .func (.func k) #[] #[], .int .i64 0, .int .i64 0, .int .u32 0, .int .u32 0, .int .u32 0, .slice none 0 0, .slice none 0 0, .int .i64 0] 64) := by
  go_enter Try.func25, Try.ntmps25
  go_wp2
  go_ret
  exact ⟨rfl, rfl⟩
end Go.Proofs.Ythnhjhlpimgkiaa

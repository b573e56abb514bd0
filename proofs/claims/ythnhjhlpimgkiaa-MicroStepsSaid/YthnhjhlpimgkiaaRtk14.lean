/-
  The reference's task, as cells; its Put, Get and Grab.
-/
import Derived.Test.YthnhjhlpimgkiaaCof14
import Derived.Test.YthnhjhlpimgkiaaPln14
namespace Go.Proofs.Ythnhjhlpimgkiaa
open Go.RowKit
/-- The reference's task. -/
structure Rt where
  kind : Int
  pl : Int
  g : Int
  old : Int
  head : Int
  tail : Int
  many : Int
  buf : List Int
  got : List Int
  steps : Int
/-- Its cells, its two slices given. -/
def rtArr (R : Rt) (B G : Value) : Array Value := #[.int .i64 R.kind, .int .u8 R.pl, .int .i64 R.g, .int .i64 R.old, .int .i64 R.head, .int .i64 R.tail, .int .i64 R.many, B, G, .int .i64 R.steps]
/-- A task that begins. -/
def rt0 (kind pl g : Int) : Rt := ⟨kind, pl, g, 0, 0, 0, 0, [], [], 0⟩
def rput (g : Int) (f : Bool) : Rt := if g < 1 then rt0 0 122 0 else if f then rt0 0 97 g else rt0 0 99 g
theorem rput_any (g : Int) (f : Bool) (w : World) : Calls Try.prog 33 #[.int .i64 g, .bool f] w fun e w' => e = .returned (.agg (rtArr (rput g f) (.slice none 0 0) (.slice none 0 0))) ∧ Below w.heap.size w w' := by
  by_cases hg : g < 1
  · have he : rput g f = rt0 0 122 0 := by unfold rput; rw [if_pos hg]
    rw [he]
    clear he
    go_enter Try.func33, Try.ntmps33
    go_wp2_with fail
    exact bodyPost_ret (v := .agg (rtArr (rt0 0 122 0) (.slice none 0 0) (.slice none 0 0))) (by simp [results, Try.results33, go_sem, rtArr, rt0]) rfl ⟨rfl, (Below.refl _ _).alloc (Nat.le_refl _) _⟩
  · cases f
    · have he : rput g false = rt0 0 99 g := by unfold rput; rw [if_neg hg]; rfl
      rw [he]
      clear he
      go_enter Try.func33, Try.ntmps33
      go_wp2_with fail
      exact bodyPost_ret (v := .agg (rtArr (rt0 0 99 g) (.slice none 0 0) (.slice none 0 0))) (by simp [results, Try.results33, go_sem, rtArr, rt0]) rfl ⟨rfl, (Below.refl _ _).alloc (Nat.le_refl _) _⟩
    · have he : rput g true = rt0 0 97 g := by unfold rput; rw [if_neg hg]; rfl
      rw [he]
      clear he
      go_enter Try.func33, Try.ntmps33
      go_wp2_with fail
      exact bodyPost_ret (v := .agg (rtArr (rt0 0 97 g) (.slice none 0 0) (.slice none 0 0))) (by simp [results, Try.results33, go_sem, rtArr, rt0]) rfl ⟨rfl, (Below.refl _ _).alloc (Nat.le_refl _) _⟩
theorem rget_any (w : World) : Calls Try.prog 34 #[] w fun e w' => e = .returned (.agg (rtArr (rt0 1 97 0) (.slice none 0 0) (.slice none 0 0))) ∧ Below w.heap.size w w' := by
  go_enter Try.func34, Try.ntmps34
  go_wp2_with fail
  exact bodyPost_ret (v := .agg (rtArr (rt0 1 97 0) (.slice none 0 0) (.slice none 0 0))) (by simp [results, Try.results34, go_sem, rtArr, rt0]) rfl ⟨rfl, (Below.refl _ _).alloc (Nat.le_refl _) _⟩
theorem rgrab_any (w : World) : Calls Try.prog 35 #[] w fun e w' => e = .returned (.agg (rtArr (rt0 2 97 0) (.slice none 0 0) (.slice none 0 0))) ∧ Below w.heap.size w w' := by
  go_enter Try.func35, Try.ntmps35
  go_wp2_with fail
  exact bodyPost_ret (v := .agg (rtArr (rt0 2 97 0) (.slice none 0 0) (.slice none 0 0))) (by simp [results, Try.results35, go_sem, rtArr, rt0]) rfl ⟨rfl, (Below.refl _ _).alloc (Nat.le_refl _) _⟩
/-- The task of an act, in plain. -/
def actP (kind g : Int) : Pt :=
  if kind = 0 then ⟨if g < 1 then none else some .putHead, g, 0, 0, 0, 0, [], [], 0⟩
  else if kind = 1 then ⟨if g < 1 then none else some .putLoad, g, 0, 0, 0, 0, [], [], 0⟩
  else if kind = 2 then ⟨some .getLoad, 0, 0, 0, 0, 0, [], [], 0⟩
  else ⟨some .grabHead, 0, 0, 0, 0, 0, [], [], 0⟩
/-- The same of the reference. -/
def actR (kind g : Int) : Rt := if kind = 0 then rput g false else if kind = 1 then rput g true else if kind = 2 then rt0 1 97 0 else rt0 2 97 0
end Go.Proofs.Ythnhjhlpimgkiaa

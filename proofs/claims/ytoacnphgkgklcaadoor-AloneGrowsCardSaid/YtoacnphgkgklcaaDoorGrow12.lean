/-
  Chapter 12: what a run of more steps has to do with one of fewer. No function of the program in sight.
-/
import Derived.Test.YtoacnphgkgklcaaDoorRun12
namespace Go.Proofs.YtoacnphgkgklcaaDoor
open Go.RowKit
theorem runA_stop (fs : List Fn) (n : Nat) (d : Wd) (h : d.th.done = true ∨ d.stuck = true) : runA fs n d = d := by
  cases n with
  | zero => rfl
  | succ n => unfold runA; rw [if_pos h]
theorem runA_add (fs : List Fn) (m : Nat) : ∀ (n : Nat) (d : Wd), runA fs (n + m) d = runA fs m (runA fs n d)
  | 0, d => by rw [Nat.zero_add]; rfl
  | n + 1, d => by
    rw [show n + 1 + m = (n + m) + 1 by omega]
    show (if d.th.done = true ∨ d.stuck = true then d else runA fs (n + m) (stepA fs d)) = runA fs m (if d.th.done = true ∨ d.stuck = true then d else runA fs n (stepA fs d))
    by_cases h : d.th.done = true ∨ d.stuck = true
    · rw [if_pos h, if_pos h, runA_stop fs m d h]
    · rw [if_neg h, if_neg h, runA_add fs m n]
theorem doneA_front (d : Wd) (op n : Int) : ∃ ys, (doneA d op n).emits = d.emits ++ ys := by
  unfold doneA
  simp only
  split
  · exact ⟨[n], rfl⟩
  split
  · exact ⟨[], by simp⟩
  split
  · exact ⟨[], by simp⟩
  split
  · split <;> exact ⟨[], by simp⟩
  · exact ⟨[], by simp⟩
theorem stepA_steps (fs : List Fn) (d : Wd) : (stepA fs d).steps = d.steps + 1 := by
  unfold stepA
  simp only
  rw [doneA_steps]
theorem stepA_front (fs : List Fn) (d : Wd) : ∃ ys, (stepA fs d).emits = d.emits ++ ys := by
  unfold stepA
  simp only
  exact doneA_front _ _ _
theorem runA_steps (fs : List Fn) : ∀ (n : Nat) (d : Wd), d.steps ≤ (runA fs n d).steps ∧ (runA fs n d).steps ≤ d.steps + n ∧ ((runA fs n d).th.done = true ∨ (runA fs n d).stuck = true ∨ (runA fs n d).steps = d.steps + n)
  | 0, d => ⟨Int.le_refl _, by show d.steps ≤ _; omega, .inr (.inr (by show d.steps = _; omega))⟩
  | n + 1, d => by
    show d.steps ≤ (if d.th.done = true ∨ d.stuck = true then d else runA fs n (stepA fs d)).steps ∧ (if d.th.done = true ∨ d.stuck = true then d else runA fs n (stepA fs d)).steps ≤ _ ∧ ((if d.th.done = true ∨ d.stuck = true then d else runA fs n (stepA fs d)).th.done = true ∨ (if d.th.done = true ∨ d.stuck = true then d else runA fs n (stepA fs d)).stuck = true ∨ (if d.th.done = true ∨ d.stuck = true then d else runA fs n (stepA fs d)).steps = _)
    by_cases h : d.th.done = true ∨ d.stuck = true
    · rw [if_pos h]
      exact ⟨Int.le_refl _, by omega, h.imp id .inl⟩
    · rw [if_neg h]
      obtain ⟨h1, h2, h3⟩ := runA_steps fs n (stepA fs d)
      rw [stepA_steps] at h1 h2 h3
      refine ⟨by omega, by omega, ?_⟩
      rcases h3 with h3 | h3 | h3
      · exact .inl h3
      · exact .inr (.inl h3)
      · exact .inr (.inr (by omega))
theorem runA_front (fs : List Fn) : ∀ (n : Nat) (d : Wd), ∃ ys, (runA fs n d).emits = d.emits ++ ys
  | 0, d => ⟨[], by show d.emits = _; simp⟩
  | n + 1, d => by
    show ∃ ys, (if d.th.done = true ∨ d.stuck = true then d else runA fs n (stepA fs d)).emits = d.emits ++ ys
    by_cases h : d.th.done = true ∨ d.stuck = true
    · rw [if_pos h]; exact ⟨[], by simp⟩
    · rw [if_neg h]
      obtain ⟨ys, h1⟩ := runA_front fs n (stepA fs d)
      obtain ⟨zs, h2⟩ := stepA_front fs d
      exact ⟨zs ++ ys, by rw [h1, h2, List.append_assoc]⟩
theorem stepA_len (fs : List Fn) (d : Wd) : (stepA fs d).emits.length ≤ d.emits.length + 1 := by
  unfold stepA
  simp only
  exact doneA_emits _ _ _
theorem runA_len (fs : List Fn) : ∀ (n : Nat) (d : Wd), (runA fs n d).emits.length ≤ d.emits.length + n
  | 0, d => Nat.le_refl _
  | n + 1, d => by
    show (if d.th.done = true ∨ d.stuck = true then d else runA fs n (stepA fs d)).emits.length ≤ _
    by_cases h : d.th.done = true ∨ d.stuck = true
    · rw [if_pos h]; omega
    · rw [if_neg h]
      have h1 := runA_len fs n (stepA fs d)
      have h2 := stepA_len fs d
      omega
end Go.Proofs.YtoacnphgkgklcaaDoor

/-
  A region that draws its order, walked once in an order of one's own choice, its last step free: what the class says need not hold behind it. No program in sight.
-/
import Derived.Test.YtfgaonkoaolffaaDoorSch
namespace Go.Proofs.YtfgaonkoaolffaaDoor
open Go.RowKit
section
variable {P : Program} {ops : Array Oper} {Q : Exit → Act → World → Prop} {md : Region.Mode}
/-- Segments, then plain operations and the last step. -/
def wpSchE (P : Program) (ops : Array Oper) (Q : Exit → Act → World → Prop) (lp : List Nat) (li : Nat) : List (List Nat × Nat) → (World → Prop) → Act → World → Prop
  | [], S, a, w => wpQuiet P ops S (fun a' => wpList P ops Q (pickOps ops [li]) a' w) (pickOps ops lp) a
  | (pl, i) :: rest, S, a, w => wpQuiet P ops S (fun a' => wpList P ops (Exit.then (fun a'' w'' => ∃ S' : World → Prop, S' w'' ∧ (∀ w, S' w → S w) ∧ wpSchE P ops Q lp li rest S' a'' w'') Q) (pickOps ops [i]) a' w) (pickOps ops pl) a
def schEB (md : Region.Mode) (ops : Array Oper) (lp : List Nat) (li : Nat) : List (List Nat × Nat) → Array Bool → Bool
  | [], listed => match plainsL md ops lp listed with
    | some l' => decide (Region.ready md ops l' = [li]) && (Region.ready md ops (l'.setIfInBounds li true)).isEmpty
    | none => false
  | (pl, i) :: rest, listed => match plainsL md ops pl listed with
    | some l' => decide (Region.ready md ops l' = [i]) && (decide (i ≠ li) && schEB md ops lp li rest (l'.setIfInBounds i true))
    | none => false
theorem schE_any {lp : List Nat} {li : Nat} (hs : Region.noSelect ops = true) (hlast : lastB md ops li = true) (hQ : ∀ (c : List PanicEntry) (a : Act) (d : Option Tmp) (v : Value) (w : World), Q (.panic c) (a.put d v) w → Q (.panic c) a w) :
    ∀ (segs : List (List Nat × Nat)) (S : World → Prop) (listed : Array Bool) (a : Act) (w : World), ClosedL md ops listed → schEB md ops lp li segs listed = true → S w → wpSchE P ops Q lp li segs S a w → wpAnyE P md ops Q S li (schLen segs lp + 1) listed a w
  | [], S, listed, a, w, hcl, hB, hS, h => by
    unfold schEB at hB
    split at hB
    · rename_i l' hp
      rw [Bool.and_eq_true, decide_eq_true_eq] at hB
      obtain ⟨hr, hB⟩ := hB
      have hi : li ∈ Region.ready md ops l' := by rw [hr]; simp
      obtain ⟨_, o, ho, _⟩ := mem_ready.1 hi
      have hpk : pickOps ops [li] = [o] := by simp [pickOps, ho]
      have := plainsL_take (fuel := 1) (P := P) (md := md) (S := S) (w := w) (m := li) (listed' := l') hs hlast hQ hS (K := fun a' => wpList P ops Q (pickOps ops [li]) a' w) (fun a' _ hq => by
        rw [hpk] at hq
        exact step_of_list ho hr (wpList_then_self hq) fun a'' w'' h3 => ⟨fun hne => absurd rfl hne, by simpa using hB, h3⟩) lp listed a hcl hp h
      exact this
    · cases hB
  | (pl, i) :: rest, S, listed, a, w, hcl, hB, hS, h => by
    unfold schEB at hB
    split at hB
    · rename_i l' hp
      rw [Bool.and_eq_true, decide_eq_true_eq, Bool.and_eq_true, decide_eq_true_eq] at hB
      obtain ⟨hr, _, hB⟩ := hB
      have hi : i ∈ Region.ready md ops l' := by rw [hr]; simp
      obtain ⟨_, o, ho, _⟩ := mem_ready.1 hi
      have hpk : pickOps ops [i] = [o] := by simp [pickOps, ho]
      have := plainsL_take (fuel := 1 + (schLen rest lp + 1)) (P := P) (md := md) (S := S) (w := w) (m := li) (listed' := l') hs hlast hQ hS (K := fun a' => wpList P ops (Exit.then (fun a'' w'' => ∃ S' : World → Prop, S' w'' ∧ (∀ w, S' w → S w) ∧ wpSchE P ops Q lp li rest S' a'' w'') Q) (pickOps ops [i]) a' w) (fun a' hcl' hq => by
        rw [Nat.add_comm 1]
        rw [hpk] at hq
        refine step_of_list ho hr hq fun a'' w'' h3 => ?_
        obtain ⟨S', hS', hSS, h4⟩ := h3
        exact ⟨fun _ => hSS _ hS', wpAnyE_mono hSS _ _ _ _ (schE_any hs hlast hQ rest S' (l'.setIfInBounds i true) a'' w'' (hcl'.set hi) hB hS' h4)⟩) pl listed a hcl hp h
      have e : pl.length + (1 + (schLen rest lp + 1)) = schLen ((pl, i) :: rest) lp + 1 := by simp only [schLen]; omega
      rw [e] at this
      exact this
    · cases hB
/-- THE REGION, its last step free. -/
theorem region_schE {id : Nat} {a : Act} {w : World} {l : List Oper} (S : World → Prop) (segs : List (List Nat × Nat)) (lp : List Nat) (li : Nat) (hm : P.follows .mixedOrders = true) (hs : Region.noSelect l.toArray = true) (hB : (schEB .any l.toArray lp li segs (Array.replicate l.toArray.size false) && (decide (schLen segs lp + 1 = l.length) && lastB .any l.toArray li)) = true)
    (hQ : ∀ (c : List PanicEntry) (a : Act) (d : Option Tmp) (v : Value) (w : World), Q (.panic c) (a.put d v) w → Q (.panic c) a w) (hS : S w.drew) (h : wpSchE P l.toArray Q lp li segs S a w.drew) : (Code.region id l.toArray true).wp P Q a w := by
  rw [Bool.and_eq_true, Bool.and_eq_true, decide_eq_true_eq] at hB
  refine wp_region_any hm (wpAny_of_E (S := S) (m := li) _ _ _ _ ?_)
  have := schE_any (P := P) (ops := l.toArray) (md := .any) hs hB.2.2 hQ segs S (Array.replicate l.toArray.size false) a w.drew (ClosedL.start _) hB.1 hS h
  rw [hB.2.1] at this
  simpa using this
theorem schE_seg {lp pl : List Nat} {li i : Nat} {rest : List (List Nat × Nat)} {S : World → Prop} {a : Act} {w : World} (h : wpQuiet P ops S (fun a' => wpList P ops (Exit.then (fun a'' w'' => ∃ S' : World → Prop, S' w'' ∧ (∀ w, S' w → S w) ∧ wpSchE P ops Q lp li rest S' a'' w'') Q) (pickOps ops [i]) a' w) (pickOps ops pl) a) : wpSchE P ops Q lp li ((pl, i) :: rest) S a w := h
theorem schE_last {lp : List Nat} {li : Nat} {S : World → Prop} {a : Act} {w : World} (h : wpQuiet P ops S (fun a' => wpList P ops Q (pickOps ops [li]) a' w) (pickOps ops lp) a) : wpSchE P ops Q lp li [] S a w := h
end
end Go.Proofs.YtfgaonkoaolffaaDoor

/-
  A region that draws its order, walked along a tree of orders: plain operations are taken as soon as they are ready; where two steps are ready, both ways are walked. No program in sight.
-/
import Derived.Test.YtfgaonkoaolffaaDoorSch
namespace Go.Proofs.YtfgaonkoaolffaaDoor
open Go.RowKit
/-- A tree of orders. -/
inductive STree where
  | fin (tl : List Nat) : STree
  | one (pl : List Nat) (i : Nat) (k : STree) : STree
  | two (pl : List Nat) (i : Nat) (ki : STree) (j : Nat) (kj : STree) : STree
section
variable {P : Program} {ops : Array Oper} {Q : Exit → Act → World → Prop} {md : Region.Mode}
def wpSchT (P : Program) (ops : Array Oper) (Q : Exit → Act → World → Prop) : STree → (World → Prop) → Act → World → Prop
  | .fin tl, S, a, w => wpQuiet P ops S (fun a' => Q .normal a' w) (pickOps ops tl) a
  | .one pl i k, S, a, w => wpQuiet P ops S (fun a' => wpList P ops (Exit.then (fun a'' w'' => ∃ S' : World → Prop, S' w'' ∧ (∀ w, S' w → S w) ∧ wpSchT P ops Q k S' a'' w'') Q) (pickOps ops [i]) a' w) (pickOps ops pl) a
  | .two pl i ki j kj, S, a, w => wpQuiet P ops S (fun a' =>
      wpList P ops (Exit.then (fun a'' w'' => ∃ S' : World → Prop, S' w'' ∧ (∀ w, S' w → S w) ∧ wpSchT P ops Q ki S' a'' w'') Q) (pickOps ops [i]) a' w ∧
      wpList P ops (Exit.then (fun a'' w'' => ∃ S' : World → Prop, S' w'' ∧ (∀ w, S' w → S w) ∧ wpSchT P ops Q kj S' a'' w'') Q) (pickOps ops [j]) a' w) (pickOps ops pl) a
/-- The tree fits, with so many operations still to come. -/
def treeB (md : Region.Mode) (ops : Array Oper) : STree → Nat → Array Bool → Bool
  | .fin tl, n, listed => match plainsL md ops tl listed with
    | some l' => (Region.ready md ops l').isEmpty && decide (tl.length = n)
    | none => false
  | .one pl i k, n, listed => match plainsL md ops pl listed with
    | some l' => decide (Region.ready md ops l' = [i]) && (decide (pl.length + 1 ≤ n) && treeB md ops k (n - (pl.length + 1)) (l'.setIfInBounds i true))
    | none => false
  | .two pl i ki j kj, n, listed => match plainsL md ops pl listed with
    | some l' => decide (Region.ready md ops l' = [i, j]) && (decide (pl.length + 1 ≤ n) && (treeB md ops ki (n - (pl.length + 1)) (l'.setIfInBounds i true) && treeB md ops kj (n - (pl.length + 1)) (l'.setIfInBounds j true)))
    | none => false
/-- One step of several. -/
theorem step_one {S : World → Prop} {m i : Nat} {o : Oper} {a : Act} {w : World} {K2 : Act → World → Prop} {K : Act → World → Prop} (ho : ops[i]? = some o) (hq : wpList P ops (Exit.then K2 Q) [o] a w)
    (next : ∀ a' w', K2 a' w' → (i ≠ m → S w') ∧ K a' w') : wpOp P ops Q i (fun a' w' => (i ≠ m → S w') ∧ K a' w') a w := by
  unfold wpOp
  simp only [ho]
  simp only [wpList] at hq
  split
  · rename_i hw
    rw [if_pos hw] at hq
    rcases hq with hq | ⟨hq, hq2⟩
    · exact .inl (Oper.wp_mono next (wp_then hq))
    · exact .inr ⟨hq, hq2⟩
  · rename_i hw
    rw [if_neg hw] at hq
    exact next _ _ hq
theorem tree_any (hs : Region.noSelect ops = true) (hQ : ∀ (c : List PanicEntry) (a : Act) (d : Option Tmp) (v : Value) (w : World), Q (.panic c) (a.put d v) w → Q (.panic c) a w) :
    ∀ (T : STree) (n : Nat) (S : World → Prop) (listed : Array Bool) (a : Act) (w : World), ClosedL md ops listed → treeB md ops T n listed = true → S w → wpSchT P ops Q T S a w → wpAnyE P md ops Q S ops.size n listed a w
  | .fin tl, n, S, listed, a, w, hcl, hB, hS, h => by
    unfold treeB at hB
    split at hB
    · rename_i l' hp
      rw [Bool.and_eq_true, decide_eq_true_eq] at hB
      have := plainsL_take (fuel := 0) (m := ops.size) hs (by unfold lastB; rw [decide_eq_true (Nat.le_refl _), Bool.true_or]) hQ hS (listed' := l') (K := fun a' => Q .normal a' w) (fun a' _ hq => ⟨by simpa using hB.1, hq⟩) tl listed a hcl hp h
      rw [Nat.add_zero, hB.2] at this
      exact this
    · cases hB
  | .one pl i k, n, S, listed, a, w, hcl, hB, hS, h => by
    unfold treeB at hB
    split at hB
    · rename_i l' hp
      rw [Bool.and_eq_true, decide_eq_true_eq, Bool.and_eq_true, decide_eq_true_eq] at hB
      obtain ⟨hr, hn, hB⟩ := hB
      have hi : i ∈ Region.ready md ops l' := by rw [hr]; simp
      obtain ⟨_, o, ho, _⟩ := mem_ready.1 hi
      have hpk : pickOps ops [i] = [o] := by simp [pickOps, ho]
      have := plainsL_take (fuel := (n - (pl.length + 1)) + 1) (P := P) (md := md) (S := S) (w := w) (m := ops.size) (listed' := l') hs (by unfold lastB; rw [decide_eq_true (Nat.le_refl _), Bool.true_or]) hQ hS (K := fun a' => wpList P ops (Exit.then (fun a'' w'' => ∃ S' : World → Prop, S' w'' ∧ (∀ w, S' w → S w) ∧ wpSchT P ops Q k S' a'' w'') Q) (pickOps ops [i]) a' w) (fun a' hcl' hq => by
        rw [hpk] at hq
        refine step_of_list ho hr hq fun a'' w'' h3 => ?_
        obtain ⟨S', hS', hSS, h4⟩ := h3
        exact ⟨fun _ => hSS _ hS', wpAnyE_mono hSS _ _ _ _ (tree_any hs hQ k _ S' (l'.setIfInBounds i true) a'' w'' (hcl'.set hi) hB hS' h4)⟩) pl listed a hcl hp h
      rw [show pl.length + ((n - (pl.length + 1)) + 1) = n by omega] at this
      exact this
    · cases hB
  | .two pl i ki j kj, n, S, listed, a, w, hcl, hB, hS, h => by
    unfold treeB at hB
    split at hB
    · rename_i l' hp
      rw [Bool.and_eq_true, decide_eq_true_eq, Bool.and_eq_true, decide_eq_true_eq, Bool.and_eq_true] at hB
      obtain ⟨hr, hn, hBi, hBj⟩ := hB
      have hi : i ∈ Region.ready md ops l' := by rw [hr]; simp
      have hj : j ∈ Region.ready md ops l' := by rw [hr]; simp
      obtain ⟨_, o, ho, _⟩ := mem_ready.1 hi
      obtain ⟨_, o2, ho2, _⟩ := mem_ready.1 hj
      have hpk : pickOps ops [i] = [o] := by simp [pickOps, ho]
      have hpk2 : pickOps ops [j] = [o2] := by simp [pickOps, ho2]
      have := plainsL_take (fuel := (n - (pl.length + 1)) + 1) (P := P) (md := md) (S := S) (w := w) (m := ops.size) (listed' := l') hs (by unfold lastB; rw [decide_eq_true (Nat.le_refl _), Bool.true_or]) hQ hS (K := fun a' =>
          wpList P ops (Exit.then (fun a'' w'' => ∃ S' : World → Prop, S' w'' ∧ (∀ w, S' w → S w) ∧ wpSchT P ops Q ki S' a'' w'') Q) (pickOps ops [i]) a' w ∧
          wpList P ops (Exit.then (fun a'' w'' => ∃ S' : World → Prop, S' w'' ∧ (∀ w, S' w → S w) ∧ wpSchT P ops Q kj S' a'' w'') Q) (pickOps ops [j]) a' w) (fun a' hcl' hq => by
        rw [hpk, hpk2] at hq
        refine ⟨fun h0 => (by rw [hr] at h0; cases h0), fun x hx => ?_⟩
        rw [hr] at hx
        simp only [List.mem_cons, List.not_mem_nil, or_false] at hx
        rcases hx with rfl | rfl
        · refine step_one ho hq.1 fun a'' w'' h3 => ?_
          obtain ⟨S', hS', hSS, h4⟩ := h3
          exact ⟨fun _ => hSS _ hS', wpAnyE_mono hSS _ _ _ _ (tree_any hs hQ ki _ S' (l'.setIfInBounds x true) a'' w'' (hcl'.set hi) hBi hS' h4)⟩
        · refine step_one ho2 hq.2 fun a'' w'' h3 => ?_
          obtain ⟨S', hS', hSS, h4⟩ := h3
          exact ⟨fun _ => hSS _ hS', wpAnyE_mono hSS _ _ _ _ (tree_any hs hQ kj _ S' (l'.setIfInBounds x true) a'' w'' (hcl'.set hj) hBj hS' h4)⟩) pl listed a hcl hp h
      rw [show pl.length + ((n - (pl.length + 1)) + 1) = n by omega] at this
      exact this
    · cases hB
/-- THE REGION. -/
theorem region_tree {id : Nat} {a : Act} {w : World} {l : List Oper} (S : World → Prop) (T : STree) (hm : P.follows .mixedOrders = true) (hs : Region.noSelect l.toArray = true) (hB : treeB .any l.toArray T l.length (Array.replicate l.toArray.size false) = true)
    (hQ : ∀ (c : List PanicEntry) (a : Act) (d : Option Tmp) (v : Value) (w : World), Q (.panic c) (a.put d v) w → Q (.panic c) a w) (hS : S w.drew) (h : wpSchT P l.toArray Q T S a w.drew) : (Code.region id l.toArray true).wp P Q a w := by
  refine wp_region_any hm (wpAny_of_E (S := S) (m := l.toArray.size) _ _ _ _ ?_)
  have := tree_any (P := P) (ops := l.toArray) (md := .any) hs hQ T l.length S (Array.replicate l.toArray.size false) a w.drew (ClosedL.start _) hB hS h
  simpa using this
theorem tree_one {pl : List Nat} {i : Nat} {k : STree} {S : World → Prop} {a : Act} {w : World} (h : wpQuiet P ops S (fun a' => wpList P ops (Exit.then (fun a'' w'' => ∃ S' : World → Prop, S' w'' ∧ (∀ w, S' w → S w) ∧ wpSchT P ops Q k S' a'' w'') Q) (pickOps ops [i]) a' w) (pickOps ops pl) a) : wpSchT P ops Q (.one pl i k) S a w := h
theorem tree_two {pl : List Nat} {i j : Nat} {ki kj : STree} {S : World → Prop} {a : Act} {w : World} (h : wpQuiet P ops S (fun a' =>
      wpList P ops (Exit.then (fun a'' w'' => ∃ S' : World → Prop, S' w'' ∧ (∀ w, S' w → S w) ∧ wpSchT P ops Q ki S' a'' w'') Q) (pickOps ops [i]) a' w ∧
      wpList P ops (Exit.then (fun a'' w'' => ∃ S' : World → Prop, S' w'' ∧ (∀ w, S' w → S w) ∧ wpSchT P ops Q kj S' a'' w'') Q) (pickOps ops [j]) a' w) (pickOps ops pl) a) : wpSchT P ops Q (.two pl i ki j kj) S a w := h
theorem tree_fin {tl : List Nat} {S : World → Prop} {a : Act} {w : World} (h : wpQuiet P ops S (fun a' => Q .normal a' w) (pickOps ops tl) a) : wpSchT P ops Q (.fin tl) S a w := h
end
end Go.Proofs.YtfgaonkoaolffaaDoor

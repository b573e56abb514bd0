/-
  A region that draws its order, walked once in an order of one's own choice: plain operations (which read) yield one value in every world of a class S; between them stand single steps (calls, allocations, appends, stores) at which nothing else can come up; behind each step the class may be made narrower. No program in sight.
-/
import Derived.Test.YtfgaonkoaolffaaDoorMix
namespace Go.Proofs.YtfgaonkoaolffaaDoor
open Go.RowKit
/-- The operations of these numbers. -/
def pickOps (ops : Array Oper) : List Nat → List Oper
  | [] => []
  | i :: is => match ops[i]? with
    | some o => o :: pickOps ops is
    | none => pickOps ops is
section
variable {P : Program} {ops : Array Oper} {Q : Exit → Act → World → Prop} {md : Region.Mode}
def plainsL (md : Region.Mode) (ops : Array Oper) : List Nat → Array Bool → Option (Array Bool)
  | [], listed => some listed
  | k :: ks, listed =>
    if (Region.ready md ops listed).contains k && Region.free md ops listed k && ((ops[k]?).map fun o => plainOp o.op).getD false then plainsL md ops ks (listed.setIfInBounds k true) else none
theorem plainsL_take {S : World → Prop} {m fuel : Nat} {w : World} {K : Act → Prop} {listed' : Array Bool} (hs : Region.noSelect ops = true) (hlast : lastB md ops m = true) (hQ : ∀ (c : List PanicEntry) (a : Act) (d : Option Tmp) (v : Value) (w : World), Q (.panic c) (a.put d v) w → Q (.panic c) a w) (hS : S w)
    (hK : ∀ a', ClosedL md ops listed' → K a' → wpAnyE P md ops Q S m fuel listed' a' w) : ∀ (ks : List Nat) (listed : Array Bool) (a : Act), ClosedL md ops listed →
    plainsL md ops ks listed = some listed' → wpQuiet P ops S K (pickOps ops ks) a → wpAnyE P md ops Q S m (ks.length + fuel) listed a w
  | [], listed, a, hcl, hp, h => by
    simp only [plainsL, Option.some.injEq] at hp
    subst hp
    rw [List.length_nil, Nat.zero_add]
    exact hK a hcl h
  | k :: ks, listed, a, hcl, hp, h => by
    simp only [plainsL] at hp
    split at hp
    · rename_i hb
      simp only [Bool.and_eq_true] at hb
      cases h0 : ops[k]? with
      | none => rw [h0] at hb; exact absurd hb.2 (by simp)
      | some o =>
        rw [h0] at hb
        simp only [Option.map_some, Option.getD_some] at hb
        simp only [pickOps, h0] at h
        have hst : qOp P ops S k (wpQuiet P ops S K (pickOps ops ks)) a := by unfold qOp; simp only [h0]; exact h
        obtain ⟨v, hy, hK'⟩ := yieldsIf_of_quiet h0 hb.2 hst
        rw [List.length_cons, show ks.length + 1 + fuel = (ks.length + fuel) + 1 by omega]
        refine wpAnyE_first h0 (Region.noSelect_spec hs) (fun c a w h => hQ c a _ _ w h) hlast _ _ _ _ hcl (Region.free_spec h0 hb.1.2) (by simpa using hb.1.1) hy hS ?_
        exact plainsL_take hs hlast hQ hS hK ks _ _ (hcl.set (by simpa using hb.1.1)) hp hK'
    · cases hp
theorem wpAnyE_mono {S S' : World → Prop} {m : Nat} (hSS : ∀ w, S' w → S w) : ∀ (fuel : Nat) (listed : Array Bool) (a : Act) (w : World), wpAnyE P md ops Q S' m fuel listed a w → wpAnyE P md ops Q S m fuel listed a w
  | 0, _, _, _, h => h
  | fuel + 1, _, _, _, h => ⟨h.1, fun i hi => wpOp_mono (fun a' w' h' => ⟨fun hm => hSS _ (h'.1 hm), wpAnyE_mono hSS fuel _ a' w' h'.2⟩) (h.2 i hi)⟩
/-- Segments: some plain operations, then a step; behind the last segment plain ones alone. -/
def wpSch (P : Program) (ops : Array Oper) (Q : Exit → Act → World → Prop) : List (List Nat × Nat) → List Nat → (World → Prop) → Act → World → Prop
  | [], tl, S, a, w => wpQuiet P ops S (fun a' => Q .normal a' w) (pickOps ops tl) a
  | (pl, i) :: rest, tl, S, a, w => wpQuiet P ops S (fun a' => wpList P ops (Exit.then (fun a'' w'' => ∃ S' : World → Prop, S' w'' ∧ (∀ w, S' w → S w) ∧ wpSch P ops Q rest tl S' a'' w'') Q) (pickOps ops [i]) a' w) (pickOps ops pl) a
def schB (md : Region.Mode) (ops : Array Oper) : List (List Nat × Nat) → List Nat → Array Bool → Bool
  | [], tl, listed => match plainsL md ops tl listed with
    | some l' => (Region.ready md ops l').isEmpty
    | none => false
  | (pl, i) :: rest, tl, listed => match plainsL md ops pl listed with
    | some l' => decide (Region.ready md ops l' = [i]) && schB md ops rest tl (l'.setIfInBounds i true)
    | none => false
def schLen : List (List Nat × Nat) → List Nat → Nat
  | [], tl => tl.length
  | (pl, _) :: rest, tl => pl.length + 1 + schLen rest tl
theorem sch_any (hs : Region.noSelect ops = true) (hQ : ∀ (c : List PanicEntry) (a : Act) (d : Option Tmp) (v : Value) (w : World), Q (.panic c) (a.put d v) w → Q (.panic c) a w) :
    ∀ (segs : List (List Nat × Nat)) (tl : List Nat) (S : World → Prop) (listed : Array Bool) (a : Act) (w : World), ClosedL md ops listed → schB md ops segs tl listed = true → S w → wpSch P ops Q segs tl S a w → wpAnyE P md ops Q S ops.size (schLen segs tl) listed a w
  | [], tl, S, listed, a, w, hcl, hB, hS, h => by
    unfold schB at hB
    split at hB
    · rename_i l' hp
      have := plainsL_take (fuel := 0) (m := ops.size) hs (by unfold lastB; rw [decide_eq_true (Nat.le_refl _), Bool.true_or]) hQ hS (listed' := l') (K := fun a' => Q .normal a' w) (fun a' _ hq => ⟨by simpa using hB, hq⟩) tl listed a hcl hp h
      exact this
    · cases hB
  | (pl, i) :: rest, tl, S, listed, a, w, hcl, hB, hS, h => by
    unfold schB at hB
    split at hB
    · rename_i l' hp
      rw [Bool.and_eq_true, decide_eq_true_eq] at hB
      obtain ⟨hr, hB⟩ := hB
      have hi : i ∈ Region.ready md ops l' := by rw [hr]; simp
      obtain ⟨_, o, ho, _⟩ := mem_ready.1 hi
      have hpk : pickOps ops [i] = [o] := by simp [pickOps, ho]
      have := plainsL_take (fuel := 1 + schLen rest tl) (P := P) (md := md) (S := S) (w := w) (m := ops.size) (listed' := l') hs (by unfold lastB; rw [decide_eq_true (Nat.le_refl _), Bool.true_or]) hQ hS (K := fun a' => wpList P ops (Exit.then (fun a'' w'' => ∃ S' : World → Prop, S' w'' ∧ (∀ w, S' w → S w) ∧ wpSch P ops Q rest tl S' a'' w'') Q) (pickOps ops [i]) a' w) (fun a' hcl' hq => by
        rw [Nat.add_comm 1]
        rw [hpk] at hq
        refine step_of_list ho hr hq fun a'' w'' h3 => ?_
        obtain ⟨S', hS', hSS, h4⟩ := h3
        exact ⟨fun _ => hSS _ hS', wpAnyE_mono hSS _ _ _ _ (sch_any hs hQ rest tl S' (l'.setIfInBounds i true) a'' w'' (hcl'.set hi) hB hS' h4)⟩) pl listed a hcl hp h
      rw [← Nat.add_assoc] at this
      exact this
    · cases hB
/-- THE REGION. -/
theorem region_sch {id : Nat} {a : Act} {w : World} {l : List Oper} (S : World → Prop) (segs : List (List Nat × Nat)) (tl : List Nat) (hm : P.follows .mixedOrders = true) (hs : Region.noSelect l.toArray = true) (hB : (schB .any l.toArray segs tl (Array.replicate l.toArray.size false) && decide (schLen segs tl = l.length)) = true)
    (hQ : ∀ (c : List PanicEntry) (a : Act) (d : Option Tmp) (v : Value) (w : World), Q (.panic c) (a.put d v) w → Q (.panic c) a w) (hS : S w.drew) (h : wpSch P l.toArray Q segs tl S a w.drew) : (Code.region id l.toArray true).wp P Q a w := by
  rw [Bool.and_eq_true, decide_eq_true_eq] at hB
  refine wp_region_any hm (wpAny_of_E (S := S) (m := l.toArray.size) _ _ _ _ ?_)
  have := sch_any (P := P) (ops := l.toArray) (md := .any) hs hQ segs tl S (Array.replicate l.toArray.size false) a w.drew (ClosedL.start _) hB.1 hS h
  rw [hB.2] at this
  simpa using this
theorem sch_seg {pl : List Nat} {i : Nat} {rest : List (List Nat × Nat)} {tl : List Nat} {S : World → Prop} {a : Act} {w : World} (h : wpQuiet P ops S (fun a' => wpList P ops (Exit.then (fun a'' w'' => ∃ S' : World → Prop, S' w'' ∧ (∀ w, S' w → S w) ∧ wpSch P ops Q rest tl S' a'' w'') Q) (pickOps ops [i]) a' w) (pickOps ops pl) a) : wpSch P ops Q ((pl, i) :: rest) tl S a w := h
theorem sch_end {tl : List Nat} {S : World → Prop} {a : Act} {w : World} (h : wpQuiet P ops S (fun a' => Q .normal a' w) (pickOps ops tl) a) : wpSch P ops Q [] tl S a w := h
/-- Behind a step that leaves all that was there: the class is what lies below the new size. -/
theorem sch_below {w0 w w' : World} {rest : List (List Nat × Nat)} {tl : List Nat} {a : Act} {B : Nat} (hw : Below B w0 w) (hB : B ≤ w0.heap.size) (hb : Below w.heap.size w w') (h : wpSch P ops Q rest tl (fun x => Below w'.heap.size w' x) a w') :
    ∃ S' : World → Prop, S' w' ∧ (∀ x, S' x → Below B w0 x) ∧ wpSch P ops Q rest tl S' a w' :=
  ⟨_, Below.refl _ _, fun _ hx => hw.trans ((hb.mono (Nat.le_trans hB hw.size)).trans (hx.mono (Nat.le_trans (Nat.le_trans hB hw.size) hb.size))), h⟩
/-- The same where the class was already that of this world. -/
theorem sch_next {w w' : World} {rest : List (List Nat × Nat)} {tl : List Nat} {a : Act} (hb : Below w.heap.size w w') (h : wpSch P ops Q rest tl (fun x => Below w'.heap.size w' x) a w') :
    ∃ S' : World → Prop, S' w' ∧ (∀ x, S' x → Below w.heap.size w x) ∧ wpSch P ops Q rest tl S' a w' :=
  sch_below (Below.refl _ _) (Nat.le_refl _) hb h
end
/-- A schedule that takes plain operations as soon as they are ready (for printing alone). -/
def autoSch (ops : Array Oper) (seq : List Nat) : Nat → List Nat → List (List Nat × Nat) → Array Bool → List (List Nat × Nat) × List Nat
  | 0, pl, segs, _ => (segs.reverse, pl.reverse)
  | n + 1, pl, segs, listed =>
    let r := Region.ready .any ops listed
    match r.find? (fun k => Region.free .any ops listed k && ((ops[k]?).map fun o => plainOp o.op).getD false) with
    | some k => autoSch ops seq n (k :: pl) segs (listed.setIfInBounds k true)
    | none => match r with
      | [] => (segs.reverse, pl.reverse)
      | [k] => autoSch ops seq n [] ((pl.reverse, k) :: segs) (listed.setIfInBounds k true)
      | ks => (segs.reverse, 999 :: ks ++ 999 :: pl.reverse)
end Go.Proofs.YtfgaonkoaolffaaDoor

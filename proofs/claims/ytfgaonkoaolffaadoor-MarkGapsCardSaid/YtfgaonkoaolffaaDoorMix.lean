/-
  A region that draws its order, walked once in the order of the text: plain operations (which read) yield one value in every world of a class S; between them stand single steps (calls, allocations, appends, stores) at which nothing else can come up, and behind which the world is of the class. No program in sight.
-/
import Derived.Test.YtfgaonkoaolffaaDoorCalm
import Derived.OrdersHeld
import Derived.Below
namespace Go.Proofs.YtfgaonkoaolffaaDoor
open Go.RowKit
/-- Operations that yield a value and are no call of a Go function. -/
def plainOp : Op → Bool
  | .move _ | .assign _ | .pick _ _ _ | .load _ _ | .binOp _ _ _ _ _ | .unOp _ _ _ | .convert _ _ _ | .fieldAddr _ _ _ | .field _ _ _ | .indexAddr _ _ _ | .index _ _ _ | .extract _ _ | .slice _ _ _ _ _ | .build _ _ | .makeFunc _ _ _ | .nilCheck _ => true
  | .call c => match c.callee with
    | .builtin .len => true
    | .builtin .max => true
    | .builtin .min => true
    | _ => false
  | _ => false
def isVal : Result Next → Prop
  | .ok (.value _) _ => True
  | .ok _ _ => False
  | _ => True
theorem isVal_then (r : Result Value) : isVal (r.andThen fun a w' => .ok (.value a) w') := by
  cases r with
  | ok x w' => rw [Result.andThen_ok]; exact True.intro
  | halt x w' => exact True.intro
theorem isVal_map {P : Program} {w : World} (s : Sem Value) : isVal (Sem.run P (do pure (Next.value (← s))) w) := by
  rw [Sem.run_bind]
  cases Sem.run P s w with
  | ok x w' => rw [Result.andThen_ok, Sem.run_pure]; exact True.intro
  | halt x w' => exact True.intro
theorem isVal_bind {P : Program} {w : World} {α : Type} (s : Sem α) (f : α → Sem Next) (h : ∀ a w, isVal ((f a).run P w)) : isVal ((s >>= f).run P w) := by
  rw [Sem.run_bind]
  cases Sem.run P s w with
  | ok x w' => rw [Result.andThen_ok]; exact h x w'
  | halt x w' => exact True.intro
theorem isVal_panic {P : Program} {w : World} : isVal (Sem.run P (runtimePanic .nilDeref : Sem Next) w) := by
  unfold runtimePanic
  exact isVal_bind _ _ fun p w => True.intro
theorem plain_val {P : Program} {w : World} {ρ : Operand → Value} {o : Oper} (h : plainOp o.op = true) : isVal ((execOp ρ o).run P w) := by
  unfold execOp
  cases ho : o.op <;> rw [ho] at h <;> simp only [plainOp] at h <;> first | exact absurd h Bool.false_ne_true | skip
  all_goals first
    | exact isVal_map _
    | (simp only [Sem.run_pure]; exact True.intro)
    | skip
  case pick c a b =>
    rw [Sem.run_bind]
    cases Sem.run P (asBool (ρ c)) w with
    | ok x w' => rw [Result.andThen_ok, Sem.run_pure]; exact True.intro
    | halt x w' => exact True.intro
  case nilCheck x =>
    try dsimp only
    generalize ρ x = y
    cases y <;> (try dsimp only) <;> first
      | exact isVal_panic
      | (simp only [Sem.run_pure]; exact True.intro)
      | skip
    case pointer a =>
      cases a <;> (try dsimp only) <;> first
        | exact isVal_panic
        | (simp only [Sem.run_pure]; exact True.intro)
    case func fn first captured =>
      cases fn <;> (try dsimp only) <;> first
        | (simp only [Sem.run_pure]; exact True.intro)
        | skip
      generalize first[0]? = z
      cases z with
      | none => (try dsimp only); simp only [Sem.run_pure]; exact True.intro
      | some z =>
        cases z <;> (try dsimp only) <;> first
          | exact isVal_panic
          | (simp only [Sem.run_pure]; exact True.intro)
          | skip
        refine isVal_bind _ _ fun p w => isVal_bind _ _ fun q w => ?_
        split
        · refine isVal_bind _ _ fun r w => ?_
          simp only [Sem.run_pure]; exact True.intro
        · simp only [Sem.run_pure]; exact True.intro
  case call c =>
    cases hc : c.callee with
    | builtin b =>
      rw [hc] at h
      cases b <;> simp only at h <;> first | exact absurd h Bool.false_ne_true | skip
      all_goals
        simp only [resolve, hc, invoke, builtin, Sem.run_bind, Sem.run_pure, Result.andThen_ok]
        exact isVal_then _
    | invoke _ _ => rw [hc] at h; exact absurd h Bool.false_ne_true
    | value _ => rw [hc] at h; exact absurd h Bool.false_ne_true
section
variable {P : Program} {ops : Array Oper} {Q : Exit → Act → World → Prop} {md : Region.Mode} {S : World → Prop}
theorem yieldsIf_of_quiet {i : Nat} {o : Oper} {a : Act} {K : Act → Prop} (hi : ops[i]? = some o) (hp : plainOp o.op = true) (h : qOp P ops S i K a) : ∃ v, YieldsIf P ops S o v a ∧ K (a.put o.dst v) := by
  obtain ⟨v, hy, hK⟩ := yieldsIn_of_qOp hi h
  refine ⟨v, ?_, hK⟩
  rcases hy with ⟨hw, hq⟩ | h0
  · refine .inl ⟨hw, fun w hS => ?_⟩
    have h1 := hq w hS
    have h2 := plain_val (P := P) (w := w) (ρ := a.eval) hp
    unfold Oper.quietAt at h1
    generalize (execOp a.eval o).run P w = r at *
    cases r with
    | halt x w' => exact absurd h1 id
    | ok n w' =>
      cases n <;> first | (obtain ⟨e1, e2⟩ := h1; subst e1 e2; rfl) | exact absurd h2 id
  · exact .inr h0
/-- Does the j-th operation wait for the i-th? -/
def waitsB (md : Region.Mode) (ops : Array Oper) (j i : Nat) : Bool := match ops[j]? with
  | none => false
  | some o => o.after.any fun e => Region.binds md e && e.on == i
def reachStep (md : Region.Mode) (ops : Array Oper) (mask : List Bool) : List Bool :=
  (List.range ops.size).map fun i => mask.getD i false || (List.range ops.size).any fun j => mask.getD j false && waitsB md ops j i
def reachN (md : Region.Mode) (ops : Array Oper) : Nat → List Bool → List Bool
  | 0, mask => mask
  | t + 1, mask => reachN md ops t (reachStep md ops mask)
/-- The m-th operation waits for all others, be it through others (or there is none such). -/
def lastB (md : Region.Mode) (ops : Array Oper) (m : Nat) : Bool :=
  decide (ops.size ≤ m) || (let mask := reachN md ops 12 ((List.range ops.size).map (waitsB md ops m)); (List.range ops.size).all fun i => i == m || mask.getD i false)
/-- Whoever has come up, what it waits for has. -/
def ClosedL (md : Region.Mode) (ops : Array Oper) (listed : Array Bool) : Prop := ∀ j i, listed.getD j false = true → waitsB md ops j i = true → listed.getD i false = true
theorem waitsB_ready {j i : Nat} {listed : Array Bool} (hj : j ∈ Region.ready md ops listed) (h : waitsB md ops j i = true) : listed.getD i false = true := by
  obtain ⟨_, o, ho, hall⟩ := mem_ready.1 hj
  unfold waitsB at h
  rw [ho] at h
  simp only at h
  obtain ⟨e, he, hb⟩ := Array.any_eq_true'.1 h
  rw [Bool.and_eq_true] at hb
  have e2 : e.on = i := by simpa using hb.2
  rw [← e2]
  exact hall e he hb.1
theorem ClosedL.set {j : Nat} {listed : Array Bool} (h : ClosedL md ops listed) (hj : j ∈ Region.ready md ops listed) : ClosedL md ops (listed.setIfInBounds j true) := by
  intro k i hk hw
  by_cases hjk : j = k
  · subst hjk
    exact getD_set_true (waitsB_ready hj hw)
  · rw [getD_set_ne false hjk] at hk
    exact getD_set_true (h k i hk hw)
theorem ClosedL.start (n : Nat) : ClosedL md ops (Array.replicate n false) := by
  intro j i h
  exfalso
  rcases Nat.lt_or_ge j n with hj | hj
  · simp [hj] at h
  · simp [hj] at h
theorem reachN_listed {listed : Array Bool} (hc : ClosedL md ops listed) : ∀ (t : Nat) (mask : List Bool), (∀ i, mask.getD i false = true → listed.getD i false = true) → ∀ i, (reachN md ops t mask).getD i false = true → listed.getD i false = true
  | 0, _, h, i, hi => h i hi
  | t + 1, mask, h, i, hi => by
    refine reachN_listed hc t (reachStep md ops mask) ?_ i hi
    intro k hk
    have hlt : k < ops.size := by
      rcases Nat.lt_or_ge k ops.size with h1 | h1
      · exact h1
      · simp [reachStep, h1] at hk
    simp only [reachStep, List.getD_eq_getElem?_getD, List.getElem?_map, List.getElem?_range hlt, Option.map_some, Option.getD_some, Bool.or_eq_true] at hk
    rcases hk with hk | hk
    · exact h k (by simpa [List.getD_eq_getElem?_getD] using hk)
    · obtain ⟨j, _, hj⟩ := List.any_eq_true.1 hk
      rw [Bool.and_eq_true] at hj
      exact hc j k (h j (by simpa [List.getD_eq_getElem?_getD] using hj.1)) hj.2
/-- Whatever order is picked from here on, and S holds behind every operation but the m-th. -/
def wpAnyE (P : Program) (md : Region.Mode) (ops : Array Oper) (Q : Exit → Act → World → Prop) (S : World → Prop) (m : Nat) : Nat → Array Bool → Act → World → Prop
  | 0, listed, a, w => Region.ready md ops listed = [] ∧ Q .normal a w
  | fuel + 1, listed, a, w =>
    (Region.ready md ops listed = [] → Q .normal a w) ∧
    ∀ i ∈ Region.ready md ops listed, wpOp P ops Q i (fun a' w' => (i ≠ m → S w') ∧ wpAnyE P md ops Q S m fuel (listed.setIfInBounds i true) a' w') a w
theorem wpAny_of_E {m : Nat} : ∀ (fuel : Nat) (listed : Array Bool) (a : Act) (w : World), wpAnyE P md ops Q S m fuel listed a w → wpAny P md ops Q fuel listed a w
  | 0, _, _, _, h => h
  | fuel + 1, _, _, _, h => ⟨h.1, fun i hi => wpOp_mono (fun a' w' h' => wpAny_of_E fuel _ a' w' h'.2) (h.2 i hi)⟩
theorem not_both {m i : Nat} {listed : Array Bool} (hc : ClosedL md ops listed) (hm : lastB md ops m = true) (hi : i ∈ Region.ready md ops listed) (hj : m ∈ Region.ready md ops listed) (hne : m ≠ i) : False := by
  obtain ⟨hiun, oi, hoi, _⟩ := mem_ready.1 hi
  obtain ⟨_, om, hom, _⟩ := mem_ready.1 hj
  have hlt : i < ops.size := (Array.getElem?_eq_some_iff.1 hoi).1
  have hmlt : m < ops.size := (Array.getElem?_eq_some_iff.1 hom).1
  unfold lastB at hm
  rw [Bool.or_eq_true, decide_eq_true_eq] at hm
  rcases hm with hm | hm
  · omega
  · have h1 := List.all_eq_true.1 hm i (List.mem_range.2 hlt)
    rw [Bool.or_eq_true] at h1
    rcases h1 with h1 | h1
    · have : i = m := by simpa using h1
      exact hne this.symm
    · have h2 := reachN_listed hc 12 _ (fun k hk => by
        have hkl : k < ops.size := by
          rcases Nat.lt_or_ge k ops.size with h3 | h3
          · exact h3
          · simp [h3] at hk
        simp only [List.getD_eq_getElem?_getD, List.getElem?_map, List.getElem?_range hkl, Option.map_some, Option.getD_some] at hk
        exact waitsB_ready hj hk) i h1
      rcases Nat.lt_or_ge i listed.size with h' | h'
      · simp [h'] at hiun h2; rw [hiun] at h2; cases h2
      · simp [Array.getElem?_eq_none h'] at h2
theorem wpAnyE_first {m i : Nat} {oi : Oper} {v : Value} (hi : ops[i]? = some oi) (hsel : ∀ (j : Nat) (o : Oper) cs b, ops[j]? = some o → o.op ≠ .select cs b)
    (hQ : ∀ c a w, Q (.panic c) (a.put oi.dst v) w → Q (.panic c) a w) (hlast : lastB md ops m = true) :
    ∀ (fuel : Nat) (listed : Array Bool) (a : Act) (w : World), ClosedL md ops listed →
      (∀ j oj, ops[j]? = some oj → j ≠ i → listed.getD j true = false → (∀ e ∈ oj.after, Region.binds md e = true → e.on ≠ i) → oi.apart ops oj = true) →
      i ∈ Region.ready md ops listed → YieldsIf P ops S oi v a → S w →
      wpAnyE P md ops Q S m fuel (listed.setIfInBounds i true) (a.put oi.dst v) w → wpAnyE P md ops Q S m (fuel + 1) listed a w := by
  intro fuel
  induction fuel with
  | zero =>
    intro listed a w _ _ hr hy hS H
    refine ⟨fun h => (by rw [h] at hr; cases hr), fun j hj => ?_⟩
    by_cases hji : j = i
    · subst hji; exact hy.wpOp hi hS ⟨fun _ => hS, H⟩
    · have := ready_mono hj hji
      rw [H.1] at this
      cases this
  | succ fuel ih =>
    intro listed a w hcl hfree hr hy hS H
    refine ⟨fun h => (by rw [h] at hr; cases hr), fun j hj => ?_⟩
    by_cases hji : j = i
    · subst hji; exact hy.wpOp hi hS ⟨fun _ => hS, H⟩
    · have hjm : j ≠ m := fun e => not_both hcl hlast hr (e ▸ hj) (e ▸ hji)
      have h1 := H.2 j (ready_mono hj hji)
      obtain ⟨hjun, oj, hoj, hall⟩ := mem_ready.1 hj
      have hnot : ∀ e ∈ oj.after, Region.binds md e = true → e.on ≠ i := fun e he hb heq => by
        have h1 := hall e he hb
        have h0 := (mem_ready.1 hr).1
        rw [heq] at h1
        rcases Nat.lt_or_ge i listed.size with h' | h'
        · simp [h'] at h0 h1; rw [h0] at h1; cases h1
        · simp [Array.getElem?_eq_none h'] at h1
      have h2 := wpOp_putIf hoj (hfree j oj hoj hji hjun hnot) (fun cs b => hsel i oi cs b hi) (fun cs b => hsel j oj cs b hoj) hQ hy h1
      have hfree' : ∀ k ok, ops[k]? = some ok → k ≠ i → (listed.setIfInBounds j true).getD k true = false →
          (∀ e ∈ ok.after, Region.binds md e = true → e.on ≠ i) → oi.apart ops ok = true := fun k ok hk hki hun hno => by
        refine hfree k ok hk hki ?_ hno
        by_cases hjk : j = k
        · subst hjk; exact hjun
        · rw [getD_set_ne true hjk] at hun; exact hun
      refine wpOp_mono (fun a' w' h3 => ⟨h3.2.1, ih (listed.setIfInBounds j true) a' w' (hcl.set hj) hfree' (ready_mono hr (Ne.symm hji)) h3.1 (h3.2.1 hjm) ?_⟩) h2
      rw [Array.setIfInBounds_comm _ _ hji]
      exact h3.2.2
/-- p plain operations from the k-th on may be taken first, one behind the other. -/
def plains (md : Region.Mode) (ops : Array Oper) : Nat → Nat → Array Bool → Option (Array Bool)
  | 0, _, listed => some listed
  | p + 1, k, listed =>
    if (Region.ready md ops listed).contains k && Region.free md ops listed k && ((ops[k]?).map fun o => plainOp o.op).getD false then plains md ops p (k + 1) (listed.setIfInBounds k true) else none
theorem plains_take {m fuel : Nat} {w : World} {K : Act → Prop} {listed' : Array Bool} (hs : Region.noSelect ops = true) (hlast : lastB md ops m = true) (hQ : ∀ (c : List PanicEntry) (a : Act) (d : Option Tmp) (v : Value) (w : World), Q (.panic c) (a.put d v) w → Q (.panic c) a w) (hS : S w)
    (hK : ∀ a', ClosedL md ops listed' → K a' → wpAnyE P md ops Q S m fuel listed' a' w) : ∀ (l : List Oper) (k : Nat) (listed : Array Bool) (a : Act), ClosedL md ops listed → (∀ j, j < l.length → l[j]? = ops[k + j]?) →
    plains md ops l.length k listed = some listed' → wpQuiet P ops S K l a → wpAnyE P md ops Q S m (l.length + fuel) listed a w
  | [], k, listed, a, hcl, _, hp, h => by
    simp only [List.length_nil, plains, Option.some.injEq] at hp
    subst hp
    rw [List.length_nil, Nat.zero_add]
    exact hK a hcl h
  | o :: l, k, listed, a, hcl, hl, hp, h => by
    have h0 : ops[k]? = some o := by simpa using (hl 0 (by simp)).symm
    simp only [List.length_cons, plains] at hp
    split at hp
    · rename_i hb
      simp only [Bool.and_eq_true, h0, Option.map_some, Option.getD_some] at hb
      have hst : qOp P ops S k (wpQuiet P ops S K l) a := by unfold qOp; simp only [h0]; exact h
      obtain ⟨v, hy, hK'⟩ := yieldsIf_of_quiet h0 hb.2 hst
      rw [List.length_cons, show l.length + 1 + fuel = (l.length + fuel) + 1 by omega]
      refine wpAnyE_first h0 (Region.noSelect_spec hs) (fun c a w h => hQ c a _ _ w h) hlast _ _ _ _ hcl (Region.free_spec h0 hb.1.2) (by simpa using hb.1.1) hy hS ?_
      exact plains_take hs hlast hQ hS hK l (k + 1) _ _ (hcl.set (by simpa using hb.1.1)) (fun j hj => by have := hl (j + 1) (by simp; omega); simpa [Nat.add_assoc, Nat.add_comm 1 j] using this) hp hK'
    · cases hp
/-- Segments: so many plain operations, then a step; behind the last segment plain ones alone. -/
def wpMix (P : Program) (ops : Array Oper) (Q : Exit → Act → World → Prop) (S : World → Prop) : List Nat → List Oper → Act → World → Prop
  | [], l, a, w => wpQuiet P ops S (fun a' => Q .normal a' w) l a
  | p :: ps, l, a, w => wpQuiet P ops S (fun a' => wpList P ops (Exit.then (fun a'' w'' => S w'' ∧ wpMix P ops Q S ps (l.drop (p + 1)) a'' w'') Q) ((l.drop p).take 1) a' w) (l.take p) a
/-- The same, with a last step behind which S need not hold: p plain operations, then that step, and nothing else. -/
def wpMixE (P : Program) (ops : Array Oper) (Q : Exit → Act → World → Prop) (S : World → Prop) (q : Nat) : List Nat → List Oper → Act → World → Prop
  | [], l, a, w => wpQuiet P ops S (fun a' => wpList P ops Q ((l.drop q).take 1) a' w) (l.take q) a
  | p :: ps, l, a, w => wpQuiet P ops S (fun a' => wpList P ops (Exit.then (fun a'' w'' => S w'' ∧ wpMixE P ops Q S q ps (l.drop (p + 1)) a'' w'') Q) ((l.drop p).take 1) a' w) (l.take p) a
def mixB (md : Region.Mode) (ops : Array Oper) : List Nat → Nat → Nat → Array Bool → Bool
  | [], n, k, listed => match plains md ops n k listed with
    | some l' => (Region.ready md ops l').isEmpty
    | none => false
  | p :: ps, n, k, listed => decide (p + 1 ≤ n) && match plains md ops p k listed with
    | some l' => decide (Region.ready md ops l' = [k + p]) && mixB md ops ps (n - (p + 1)) (k + p + 1) (l'.setIfInBounds (k + p) true)
    | none => false
def mixEB (md : Region.Mode) (ops : Array Oper) (q : Nat) : List Nat → Nat → Nat → Array Bool → Bool
  | [], n, k, listed => decide (q + 1 = n) && match plains md ops q k listed with
    | some l' => decide (Region.ready md ops l' = [k + q]) && (Region.ready md ops (l'.setIfInBounds (k + q) true)).isEmpty
    | none => false
  | p :: ps, n, k, listed => decide (p + 1 ≤ n) && match plains md ops p k listed with
    | some l' => decide (Region.ready md ops l' = [k + p]) && mixEB md ops q ps (n - (p + 1)) (k + p + 1) (l'.setIfInBounds (k + p) true)
    | none => false
theorem wp_then {o : Oper} {a : Act} {w : World} {K K2 : Act → World → Prop} (h : o.wp P a w K (Exit.then K2 Q)) : o.wp P a w K Q := by
  unfold Oper.wp at *
  generalize (execOp a.eval o).run P w = r at *
  cases r with
  | ok n w' =>
    cases n <;> simp only [Oper.upon] at h ⊢ <;> first
      | exact h
      | exact Calls.mono h (fun e w'' he => by cases e <;> exact he)
  | halt x w' => cases x <;> simp only [Oper.upon] at h ⊢ <;> exact h
/-- One step, at which nothing else can come up. -/
theorem step_of_list {m i : Nat} {o : Oper} {a : Act} {w : World} {fuel : Nat} {listed : Array Bool} {K2 : Act → World → Prop} (ho : ops[i]? = some o) (hr : Region.ready md ops listed = [i]) (hq : wpList P ops (Exit.then K2 Q) [o] a w)
    (next : ∀ a' w', K2 a' w' → (i ≠ m → S w') ∧ wpAnyE P md ops Q S m fuel (listed.setIfInBounds i true) a' w') : wpAnyE P md ops Q S m (fuel + 1) listed a w := by
  refine ⟨fun h0 => (by rw [hr] at h0; cases h0), fun i' hi' => ?_⟩
  rw [hr] at hi'
  obtain rfl : i' = i := by simpa using hi'
  unfold wpOp
  simp only [ho]
  simp only [wpList] at hq
  split
  · rename_i hw
    rw [if_pos hw] at hq
    rcases hq with hq | ⟨hq, hq2⟩
    · exact .inl (Oper.wp_mono next (wp_then hq))
    · exact .inr ⟨hq, hq2⟩
  · rename_i hw
    rw [if_neg hw] at hq
    exact next _ _ hq
theorem drop_take_one {l : List Oper} {p : Nat} (h : p < l.length) : ((l.drop p).take 1) = [l[p]] := by
  rw [List.drop_eq_getElem_cons h]; rfl
theorem mix_any (hs : Region.noSelect ops = true) (hQ : ∀ (c : List PanicEntry) (a : Act) (d : Option Tmp) (v : Value) (w : World), Q (.panic c) (a.put d v) w → Q (.panic c) a w) :
    ∀ (ps : List Nat) (l : List Oper) (k : Nat) (listed : Array Bool) (a : Act) (w : World), ClosedL md ops listed → (∀ j, l[j]? = ops[k + j]?) → mixB md ops ps l.length k listed = true → S w → wpMix P ops Q S ps l a w → wpAnyE P md ops Q S ops.size l.length listed a w
  | [], l, k, listed, a, w, hcl, hl, hB, hS, h => by
    unfold mixB at hB
    split at hB
    · rename_i l' hp
      have := plains_take (fuel := 0) (m := ops.size) hs (by unfold lastB; rw [decide_eq_true (Nat.le_refl _), Bool.true_or]) hQ hS (listed' := l') (K := fun a' => Q .normal a' w) (fun a' _ hq => ⟨by simpa using hB, hq⟩) l k listed a hcl (fun j _ => hl j) hp h
      simpa using this
    · cases hB
  | p :: ps, l, k, listed, a, w, hcl, hl, hB, hS, h => by
    unfold mixB at hB
    rw [Bool.and_eq_true, decide_eq_true_eq] at hB
    obtain ⟨hp1, hB⟩ := hB
    split at hB
    · rename_i l' hp
      rw [Bool.and_eq_true, decide_eq_true_eq] at hB
      obtain ⟨hr, hB⟩ := hB
      have hlen : (l.take p).length = p := by simp; omega
      have ho : ops[k + p]? = some (l[p]'(by omega)) := by rw [← hl p]; exact List.getElem?_eq_getElem (by omega)
      have := plains_take (fuel := l.length - p) (P := P) (md := md) (S := S) (w := w) (m := ops.size) (listed' := l') hs (by unfold lastB; rw [decide_eq_true (Nat.le_refl _), Bool.true_or]) hQ hS (K := fun a' => wpList P ops (Exit.then (fun a'' w'' => S w'' ∧ wpMix P ops Q S ps (l.drop (p + 1)) a'' w'') Q) ((l.drop p).take 1) a' w) (fun a' hcl' hq => by
        rw [show l.length - p = (l.length - (p + 1)) + 1 by omega]
        rw [drop_take_one (by omega)] at hq
        refine step_of_list ho hr hq fun a'' w'' h3 => ⟨fun _ => h3.1, ?_⟩
        have := mix_any hs hQ ps (l.drop (p + 1)) (k + p + 1) (l'.setIfInBounds (k + p) true) a'' w'' (hcl'.set (by rw [hr]; simp)) (fun j => by rw [List.getElem?_drop, hl]; congr 1; omega) (by rw [List.length_drop]; exact hB) h3.1 h3.2
        rwa [List.length_drop] at this) (l.take p) k listed a hcl (fun j hj => by rw [hlen] at hj; rw [List.getElem?_take_of_lt hj]; exact hl j) (by rw [hlen]; exact hp) h
      rw [hlen, show p + (l.length - p) = l.length by omega] at this
      exact this
    · cases hB
theorem wpList_then_self {l : List Oper} {a : Act} {w : World} (h : wpList P ops Q l a w) : wpList P ops (Exit.then (fun a' w' => Q .normal a' w') Q) l a w := by
  have e : Exit.then (fun a' w' => Q .normal a' w') Q = Q := by
    funext e a w
    cases e <;> rfl
  rw [e]; exact h
theorem mixE_any {m q : Nat} (hs : Region.noSelect ops = true) (hlast : lastB md ops m = true) (hm : m + 1 = ops.size) (hQ : ∀ (c : List PanicEntry) (a : Act) (d : Option Tmp) (v : Value) (w : World), Q (.panic c) (a.put d v) w → Q (.panic c) a w) :
    ∀ (ps : List Nat) (l : List Oper) (k : Nat) (listed : Array Bool) (a : Act) (w : World), ClosedL md ops listed → (∀ j, l[j]? = ops[k + j]?) → k + l.length = ops.size → mixEB md ops q ps l.length k listed = true → S w → wpMixE P ops Q S q ps l a w → wpAnyE P md ops Q S m l.length listed a w
  | [], l, k, listed, a, w, hcl, hl, hk, hB, hS, h => by
    unfold mixEB at hB
    rw [Bool.and_eq_true, decide_eq_true_eq] at hB
    obtain ⟨hq1, hB⟩ := hB
    split at hB
    · rename_i l' hp
      rw [Bool.and_eq_true, decide_eq_true_eq] at hB
      obtain ⟨hr, hB⟩ := hB
      have hlen : (l.take q).length = q := by simp; omega
      have ho : ops[k + q]? = some (l[q]'(by omega)) := by rw [← hl q]; exact List.getElem?_eq_getElem (by omega)
      have := plains_take (fuel := 1) (P := P) (md := md) (S := S) (w := w) (m := m) (listed' := l') hs hlast hQ hS (K := fun a' => wpList P ops Q ((l.drop q).take 1) a' w) (fun a' _ hq => by
        rw [drop_take_one (by omega)] at hq
        refine step_of_list ho hr (wpList_then_self hq) fun a'' w'' h3 => ⟨fun hne => absurd (by omega) hne, by simpa using hB, h3⟩) (l.take q) k listed a hcl (fun j hj => by rw [hlen] at hj; rw [List.getElem?_take_of_lt hj]; exact hl j) (by rw [hlen]; exact hp) h
      rw [hlen, hq1] at this
      exact this
    · cases hB
  | p :: ps, l, k, listed, a, w, hcl, hl, hk, hB, hS, h => by
    unfold mixEB at hB
    rw [Bool.and_eq_true, decide_eq_true_eq] at hB
    obtain ⟨hp1, hB⟩ := hB
    split at hB
    · rename_i l' hp
      rw [Bool.and_eq_true, decide_eq_true_eq] at hB
      obtain ⟨hr, hB⟩ := hB
      have hlen : (l.take p).length = p := by simp; omega
      have ho : ops[k + p]? = some (l[p]'(by omega)) := by rw [← hl p]; exact List.getElem?_eq_getElem (by omega)
      have := plains_take (fuel := l.length - p) (P := P) (md := md) (S := S) (w := w) (m := m) (listed' := l') hs hlast hQ hS (K := fun a' => wpList P ops (Exit.then (fun a'' w'' => S w'' ∧ wpMixE P ops Q S q ps (l.drop (p + 1)) a'' w'') Q) ((l.drop p).take 1) a' w) (fun a' hcl' hq => by
        rw [show l.length - p = (l.length - (p + 1)) + 1 by omega]
        rw [drop_take_one (by omega)] at hq
        refine step_of_list ho hr hq fun a'' w'' h3 => ⟨fun _ => h3.1, ?_⟩
        have := mixE_any hs hlast hm hQ ps (l.drop (p + 1)) (k + p + 1) (l'.setIfInBounds (k + p) true) a'' w'' (hcl'.set (by rw [hr]; simp)) (fun j => by rw [List.getElem?_drop, hl]; congr 1; omega) (by rw [List.length_drop]; omega) (by rw [List.length_drop]; exact hB) h3.1 h3.2
        rwa [List.length_drop] at this) (l.take p) k listed a hcl (fun j hj => by rw [hlen] at hj; rw [List.getElem?_take_of_lt hj]; exact hl j) (by rw [hlen]; exact hp) h
      rw [hlen, show p + (l.length - p) = l.length by omega] at this
      exact this
    · cases hB
theorem mix_seg {p : Nat} {ps : List Nat} {l : List Oper} {a : Act} {w : World} (h : wpQuiet P ops S (fun a' => wpList P ops (Exit.then (fun a'' w'' => S w'' ∧ wpMix P ops Q S ps (l.drop (p + 1)) a'' w'') Q) ((l.drop p).take 1) a' w) (l.take p) a) : wpMix P ops Q S (p :: ps) l a w := h
theorem mix_end {l : List Oper} {a : Act} {w : World} (h : wpQuiet P ops S (fun a' => Q .normal a' w) l a) : wpMix P ops Q S [] l a w := h
theorem mixE_seg {p q : Nat} {ps : List Nat} {l : List Oper} {a : Act} {w : World} (h : wpQuiet P ops S (fun a' => wpList P ops (Exit.then (fun a'' w'' => S w'' ∧ wpMixE P ops Q S q ps (l.drop (p + 1)) a'' w'') Q) ((l.drop p).take 1) a' w) (l.take p) a) : wpMixE P ops Q S q (p :: ps) l a w := h
theorem mixE_end {q : Nat} {l : List Oper} {a : Act} {w : World} (h : wpQuiet P ops S (fun a' => wpList P ops Q ((l.drop q).take 1) a' w) (l.take q) a) : wpMixE P ops Q S q [] l a w := h
/-- THE REGION, the class kept to its end. -/
theorem region_mix {id : Nat} {a : Act} {w : World} {l : List Oper} (S : World → Prop) (ps : List Nat) (hm : P.follows .mixedOrders = true) (hs : Region.noSelect l.toArray = true) (hB : mixB .any l.toArray ps l.length 0 (Array.replicate l.toArray.size false) = true)
    (hQ : ∀ (c : List PanicEntry) (a : Act) (d : Option Tmp) (v : Value) (w : World), Q (.panic c) (a.put d v) w → Q (.panic c) a w) (hS : S w.drew) (h : wpMix P l.toArray Q S ps l a w.drew) : (Code.region id l.toArray true).wp P Q a w := by
  refine wp_region_any hm (wpAny_of_E (S := S) (m := l.toArray.size) _ _ _ _ ?_)
  have := mix_any (P := P) (ops := l.toArray) (md := .any) (S := S) hs hQ ps l 0 (Array.replicate l.toArray.size false) a w.drew (ClosedL.start _) (fun j => by simp) hB hS h
  simpa using this
/-- THE REGION, its last step free. -/
theorem region_mixE {id : Nat} {a : Act} {w : World} {l : List Oper} (S : World → Prop) (q : Nat) (ps : List Nat) (hm : P.follows .mixedOrders = true) (hs : Region.noSelect l.toArray = true) (hB : (mixEB .any l.toArray q ps l.length 0 (Array.replicate l.toArray.size false) && lastB .any l.toArray (l.length - 1) && decide (1 ≤ l.length)) = true)
    (hQ : ∀ (c : List PanicEntry) (a : Act) (d : Option Tmp) (v : Value) (w : World), Q (.panic c) (a.put d v) w → Q (.panic c) a w) (hS : S w.drew) (h : wpMixE P l.toArray Q S q ps l a w.drew) : (Code.region id l.toArray true).wp P Q a w := by
  rw [Bool.and_eq_true, Bool.and_eq_true, decide_eq_true_eq] at hB
  refine wp_region_any hm (wpAny_of_E (S := S) (m := l.length - 1) _ _ _ _ ?_)
  have := mixE_any (P := P) (ops := l.toArray) (md := .any) (S := S) (m := l.length - 1) (q := q) hs hB.1.2 (by simp; omega) hQ ps l 0 (Array.replicate l.toArray.size false) a w.drew (ClosedL.start _) (fun j => by simp) (by simp) hB.1.1 hS h
  simpa using this
end
end Go.Proofs.YtfgaonkoaolffaaDoor

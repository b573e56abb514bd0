/-
  Chapter 8, plain: what comes of the first place: by a walk into the depth, by rounds; numbers in order, each once. No program in sight.
-/
import Derived.Test.YtfgaonkoaolffaaDoorGra8
namespace Go.Proofs.YtfgaonkoaolffaaDoor
/-- What comes of a place. -/
inductive Rc (nx : Nat → List Nat) (a : Nat) : Nat → Prop
  | root : Rc nx a a
  | step {x y : Nat} : Rc nx a x → y ∈ nx x → Rc nx a y
section
variable {n : Nat} {nx : Nat → List Nat}
theorem Rc.trans {a b c : Nat} (h : Rc nx a b) (k : Rc nx b c) : Rc nx a c := by
  induction k with
  | root => exact h
  | step _ h2 ih => exact .step ih h2
theorem getB_set (l : List Bool) (i j : Nat) (v : Bool) (hi : i < l.length) : (l.set i v).getD j false = if i = j then v else l.getD j false := by
  simp only [List.getD_eq_getElem?_getD, List.getElem?_set]
  by_cases e : i = j
  · subst e
    simp [hi]
  · rw [if_neg e, if_neg e]
theorem getB_big {l : List Bool} {x : Nat} (h : l.length ≤ x) : l.getD x false = false := by
  rw [List.getD_eq_getElem?_getD, List.getElem?_eq_none h]
  rfl
theorem countB_le {m m' : List Bool} (hlen : m.length = m'.length) (h : ∀ x, m.getD x false = true → m'.getD x false = true) : m'.count false ≤ m.count false := by
  induction m generalizing m' with
  | nil =>
    have : m' = [] := List.length_eq_zero_iff.1 hlen.symm
    rw [this]
    exact Nat.le_refl _
  | cons a m ih =>
    cases m' with
    | nil => cases hlen
    | cons b m' =>
      have h1 := ih (m' := m') (by simpa using hlen) (fun x hx => by
        have := h (x + 1) (by simpa using hx)
        simpa using this)
      have h2 := h 0
      simp only [List.getD_cons_zero] at h2
      simp only [List.count_cons, beq_iff_eq]
      cases a <;> cases b <;> simp_all <;> omega
theorem countB_eq {m m' : List Bool} (hlen : m.length = m'.length) (h : ∀ x, m.getD x false = true → m'.getD x false = true) (hc : m'.count false = m.count false) : m' = m := by
  induction m generalizing m' with
  | nil => exact List.length_eq_zero_iff.1 hlen.symm
  | cons a m ih =>
    cases m' with
    | nil => cases hlen
    | cons b m' =>
      have ht : ∀ x, m.getD x false = true → m'.getD x false = true := fun x hx => by
        have := h (x + 1) (by simpa using hx)
        simpa using this
      have h1 := countB_le (by simpa using hlen) ht
      have h2 := h 0
      simp only [List.getD_cons_zero] at h2
      simp only [List.count_cons, beq_iff_eq] at hc
      have e : b = a := by
        cases a <;> cases b <;> simp_all <;> omega
      subst e
      rw [ih (by simpa using hlen) ht (by omega)]
theorem countB_set {l : List Bool} {i : Nat} (hi : i < l.length) (h0 : l.getD i false = false) : (l.set i true).count false + 1 = l.count false := by
  induction l generalizing i with
  | nil => exact absurd hi (Nat.not_lt_zero _)
  | cons x l ih =>
    cases i with
    | zero =>
      have : x = false := by simpa using h0
      subst this
      simp
    | succ i =>
      have := ih (i := i) (by simpa using hi) (by simpa using h0)
      simp only [List.set_cons_succ, List.count_cons, beq_iff_eq]
      omega
/-- What a walk into the depth from k leaves, of what was marked. -/
structure Rw (n : Nat) (nx : Nat → List Nat) (k : Nat) (v v' : List Bool) : Prop where
  len : v'.length = n
  up : ∀ x, v.getD x false = true → v'.getD x false = true
  here : v'.getD k false = true
  shut : ∀ x, v'.getD x false = true → v.getD x false = true ∨ ∀ y ∈ nx x, v'.getD y false = true
  from_ : ∀ x, v'.getD x false = true → v.getD x false = true ∨ Rc nx k x
/-- In the loop over what comes next to k: j of these are done with. -/
structure Rl (n : Nat) (nx : Nat → List Nat) (k : Nat) (v : List Bool) (j : Nat) (vj : List Bool) : Prop where
  len : vj.length = n
  up : ∀ x, v.getD x false = true → vj.getD x false = true
  here : vj.getD k false = true
  shut : ∀ x, vj.getD x false = true → v.getD x false = true ∨ x = k ∨ ∀ y ∈ nx x, vj.getD y false = true
  from_ : ∀ x, vj.getD x false = true → v.getD x false = true ∨ Rc nx k x
  seen : ∀ y ∈ (nx k).take j, vj.getD y false = true
  cnt : vj.count false < v.count false
theorem Rw.same {v : List Bool} {k : Nat} (hl : v.length = n) (h : v.getD k false = true) : Rw n nx k v v := ⟨hl, fun _ h => h, h, fun _ h => .inl h, fun _ h => .inl h⟩
theorem Rl.start {v : List Bool} {k : Nat} (hl : v.length = n) (hk : k < n) (h : v.getD k false = false) : Rl n nx k v 0 (v.set k true) := by
  have hkv : k < v.length := by omega
  have hc := countB_set hkv h
  refine ⟨by rw [List.length_set, hl], fun x hx => ?_, by rw [getB_set _ _ _ _ hkv, if_pos rfl], fun x hx => ?_, fun x hx => ?_, fun y hy => by simp at hy, by omega⟩
  · rw [getB_set _ _ _ _ hkv]
    split
    · rfl
    · exact hx
  · rw [getB_set _ _ _ _ hkv] at hx
    split at hx
    · rename_i e; exact .inr (.inl e.symm)
    · exact .inl hx
  · rw [getB_set _ _ _ _ hkv] at hx
    split at hx
    · rename_i e; subst e; exact .inr .root
    · exact .inl hx
theorem Rl.next {v vj v' : List Bool} {k j y : Nat} (h : Rl n nx k v j vj) (hj : (nx k)[j]? = some y) (hw : Rw n nx y vj v') : Rl n nx k v (j + 1) v' := by
  have htk : (nx k).take (j + 1) = (nx k).take j ++ [y] := by rw [List.take_add_one, hj]; rfl
  have hmem : y ∈ nx k := List.mem_of_getElem? hj
  refine ⟨hw.len, fun x hx => hw.up x (h.up x hx), hw.up k h.here, fun x hx => ?_, fun x hx => ?_, fun z hz => ?_, Nat.lt_of_le_of_lt (countB_le (by rw [h.len, hw.len]) hw.up) h.cnt⟩
  · rcases hw.shut x hx with h1 | h1
    · rcases h.shut x h1 with h2 | h2 | h2
      · exact .inl h2
      · exact .inr (.inl h2)
      · exact .inr (.inr fun z hz => hw.up z (h2 z hz))
    · exact .inr (.inr h1)
  · rcases hw.from_ x hx with h1 | h1
    · exact h.from_ x h1
    · exact .inr ((Rc.step .root hmem).trans h1)
  · rw [htk] at hz
    rcases List.mem_append.1 hz with hz | hz
    · exact hw.up z (h.seen z hz)
    · rw [List.mem_singleton] at hz
      rw [hz]
      exact hw.here
theorem Rl.finish {v vj : List Bool} {k j : Nat} (h : Rl n nx k v j vj) (hj : (nx k).length ≤ j) : Rw n nx k v vj := by
  have hs := h.seen
  rw [List.take_of_length_le hj] at hs
  refine ⟨h.len, h.up, h.here, fun x hx => ?_, h.from_⟩
  rcases h.shut x hx with h1 | rfl | h1
  · exact .inl h1
  · exact .inr hs
  · exact .inr h1
/-- These are the ones that come of the first place. -/
def IsRc (n : Nat) (nx : Nat → List Nat) (v : List Bool) : Prop := v.length = n ∧ ∀ x, x < n → (v.getD x false = true ↔ Rc nx 0 x)
theorem IsRc.uniq {v u : List Bool} (h : IsRc n nx v) (k : IsRc n nx u) : v = u := by
  refine List.ext_getElem (by rw [h.1, k.1]) fun i h1 h2 => ?_
  have hi : i < n := by rw [← h.1]; exact h1
  have e1 : v.getD i false = v[i] := by simp [h1]
  have e2 : u.getD i false = u[i] := by simp [h2]
  have h3 := h.2 i hi
  have h4 := k.2 i hi
  rw [e1] at h3
  rw [e2] at h4
  rw [Bool.eq_iff_iff, h3, h4]
theorem fresh_all (n x : Nat) : (List.replicate n false).getD x false = false := by
  rw [List.getD_eq_getElem?_getD, List.getElem?_replicate]
  split <;> rfl
theorem Rw.all {v : List Bool} (h : Rw n nx 0 (List.replicate n false) v) {x : Nat} (hx : Rc nx 0 x) : v.getD x false = true := by
  induction hx with
  | root => exact h.here
  | step _ h2 ih =>
    rcases h.shut _ ih with h1 | h1
    · rw [fresh_all] at h1; cases h1
    · exact h1 _ h2
theorem Rw.top {v : List Bool} (h : Rw n nx 0 (List.replicate n false) v) : IsRc n nx v := by
  refine ⟨h.len, fun x _ => ⟨fun hx => ?_, fun hx => ?_⟩⟩
  · rcases h.from_ x hx with h1 | h1
    · rw [fresh_all] at h1; cases h1
    · exact h1
  · exact h.all hx
/-- Behind r rounds. -/
structure Rr (n : Nat) (nx : Nat → List Nat) (r : Nat) (v : List Bool) : Prop where
  len : v.length = n
  zero : 0 < n → v.getD 0 false = true
  from_ : ∀ x, v.getD x false = true → Rc nx 0 x
  full : 0 < n → (∀ x, Rc nx 0 x → v.getD x false = true) ∨ v.count false + r + 1 ≤ n
/-- In a round: j places are looked at. -/
structure Rj (n : Nat) (nx : Nat → List Nat) (v : List Bool) (j : Nat) (u : List Bool) : Prop where
  len : u.length = n
  up : ∀ x, v.getD x false = true → u.getD x false = true
  from_ : ∀ x, u.getD x false = true → Rc nx 0 x
  seen : ∀ x, x < j → v.getD x false = true → ∀ y ∈ nx x, u.getD y false = true
theorem Rj.start {v : List Bool} {r : Nat} (h : Rr n nx r v) : Rj n nx v 0 v := ⟨h.len, fun _ h => h, h.from_, fun _ h => absurd h (Nat.not_lt_zero _)⟩
theorem Rj.skip {v u : List Bool} {j : Nat} (h : Rj n nx v j u) (hj : u.getD j false = false) : Rj n nx v (j + 1) u := by
  refine ⟨h.len, h.up, h.from_, fun x hx hv => ?_⟩
  by_cases e : x = j
  · subst e
    have := h.up x hv
    rw [hj] at this
    cases this
  · exact h.seen x (by omega) hv
/-- .. of the j-th one, i of those that come next. -/
theorem Rj.mark {v u : List Bool} {j y : Nat} (h : Rj n nx v j u) (hj : u.getD j false = true) (hy : y ∈ nx j) (hyn : y < n) : Rj n nx v j (u.set y true) ∧ (u.set y true).getD y false = true ∧ ∀ x, u.getD x false = true → (u.set y true).getD x false = true := by
  have hyu : y < u.length := by rw [h.len]; exact hyn
  have hup : ∀ x, u.getD x false = true → (u.set y true).getD x false = true := fun x hx => by
    rw [getB_set _ _ _ _ hyu]
    split
    · rfl
    · exact hx
  refine ⟨⟨by rw [List.length_set, h.len], fun x hx => hup x (h.up x hx), fun x hx => ?_, fun x hx hv z hz => hup z (h.seen x hx hv z hz)⟩, by rw [getB_set _ _ _ _ hyu, if_pos rfl], hup⟩
  rw [getB_set _ _ _ _ hyu] at hx
  split at hx
  · rename_i e
    subst e
    exact .step (h.from_ j hj) hy
  · exact h.from_ x hx
theorem Rj.on {v u : List Bool} {j : Nat} (h : Rj n nx v j u) (hs : ∀ y ∈ nx j, u.getD y false = true) : Rj n nx v (j + 1) u := by
  refine ⟨h.len, h.up, h.from_, fun x hx hv => ?_⟩
  by_cases e : x = j
  · subst e; exact hs
  · exact h.seen x (by omega) hv
theorem Rj.round {v u : List Bool} {r : Nat} (h : Rj n nx v n u) (hr : Rr n nx r v) : Rr n nx (r + 1) u := by
  have hle := countB_le (by rw [hr.len, h.len]) h.up
  refine ⟨h.len, fun h0 => h.up 0 (hr.zero h0), h.from_, fun h0 => ?_⟩
  rcases hr.full h0 with hf | hf
  · exact .inl fun x hx => h.up x (hf x hx)
  · by_cases he : u.count false = v.count false
    · left
      have huv := countB_eq (by rw [hr.len, h.len]) h.up he
      subst huv
      intro x hx
      induction hx with
      | root => exact hr.zero h0
      | @step x y _ h2 ih =>
        have hxn : x < n := by
          rcases Nat.lt_or_ge x u.length with h1 | h1
          · rw [← h.len]; exact h1
          · rw [getB_big h1] at ih; cases ih
        exact h.seen x hxn ih _ h2
    · right; omega
theorem Rr.done {v : List Bool} {r : Nat} (h : Rr n nx r v) (hr : n ≤ r) : IsRc n nx v := by
  refine ⟨h.len, fun x hxn => ⟨h.from_ x, fun hx => ?_⟩⟩
  rcases h.full (by omega) with hf | hf
  · exact hf x hx
  · omega
theorem countB_len (v : List Bool) (h : v.getD 0 false = true) : v.count false + 1 ≤ v.length := by
  cases v with
  | nil => cases h
  | cons a v =>
    have : a = true := by simpa using h
    subst this
    simp
    exact List.count_le_length
/-- The first place alone is marked. -/
theorem Rr.first {v : List Bool} (hl : v.length = n) (h0 : 0 < n → v.getD 0 false = true) (hx : ∀ x, v.getD x false = true → x = 0) : Rr n nx 0 v := by
  refine ⟨hl, h0, fun x h => by rw [hx x h]; exact .root, fun hn => .inr ?_⟩
  have := countB_len v (h0 hn)
  omega
end
end Go.Proofs.YtfgaonkoaolffaaDoor

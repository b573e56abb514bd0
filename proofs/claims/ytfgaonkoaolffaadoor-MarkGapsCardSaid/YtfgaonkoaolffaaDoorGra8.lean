/-
  Chapter 8, plain: the longest row of open places, by rounds and by a walk into the depth; what comes of the first place. No program in sight.
-/
import Derived.Test.YtfgaonkoaolffaaDoorBits
namespace Go.Proofs.YtfgaonkoaolffaaDoor
/-- How long a row may be that begins at x, of r places at most. -/
def lg (nx : Nat → List Nat) (op : Nat → Bool) : Nat → Nat → Nat
  | 0, _ => 0
  | r + 1, x => if op x then (nx x).foldl (fun a k => max a (1 + lg nx op r k)) 1 else 0
def mostF (f : Nat → Nat) (n : Nat) : Nat := (List.range n).foldl (fun a x => max a (f x)) 0
def gapG (n : Nat) (nx : Nat → List Nat) (op : Nat → Bool) : Nat × Bool := if n < mostF (lg nx op (n + 1)) n then (0, false) else (mostF (lg nx op (n + 1)) n, true)
theorem foldmax_le {f : Nat → Nat} {l : List Nat} {a b : Nat} : l.foldl (fun a k => max a (f k)) a ≤ b ↔ a ≤ b ∧ ∀ k ∈ l, f k ≤ b := by
  induction l generalizing a with
  | nil => simp
  | cons x l ih =>
    rw [List.foldl_cons, ih]
    simp only [List.mem_cons, forall_eq_or_imp, Nat.max_le, and_assoc]
theorem foldmax_ge {f : Nat → Nat} {l : List Nat} {a : Nat} : a ≤ l.foldl (fun a k => max a (f k)) a := (foldmax_le.1 (Nat.le_refl _)).1
theorem foldmax_mem {f : Nat → Nat} {l : List Nat} {a k : Nat} (h : k ∈ l) : f k ≤ l.foldl (fun a k => max a (f k)) a := (foldmax_le.1 (Nat.le_refl _)).2 k h
theorem foldmax_congr {f g : Nat → Nat} {l : List Nat} {a : Nat} (h : ∀ k ∈ l, f k = g k) : l.foldl (fun a k => max a (f k)) a = l.foldl (fun a k => max a (g k)) a := by
  induction l generalizing a with
  | nil => rfl
  | cons x l ih =>
    rw [List.foldl_cons, List.foldl_cons, h x (by simp), ih (fun k hk => h k (by simp [hk]))]
theorem foldmax_is {f : Nat → Nat} {l : List Nat} {a : Nat} : l.foldl (fun a k => max a (f k)) a = a ∨ ∃ k ∈ l, l.foldl (fun a k => max a (f k)) a = f k := by
  induction l generalizing a with
  | nil => exact .inl rfl
  | cons x l ih =>
    rw [List.foldl_cons]
    rcases ih (a := max a (f x)) with h | ⟨k, hk, h⟩
    · rw [h]
      by_cases hx : f x ≤ a
      · left; omega
      · right; exact ⟨x, by simp, by omega⟩
    · right; exact ⟨k, by simp [hk], h⟩
theorem foldmax_one {f : Nat → Nat} {l : List Nat} {a : Nat} : l.foldl (fun a k => max a (1 + f k)) (a + 1) = l.foldl (fun a k => max a (f k)) a + 1 := by
  induction l generalizing a with
  | nil => rfl
  | cons x l ih =>
    rw [List.foldl_cons, List.foldl_cons, ← ih]
    congr 1
    omega
theorem most_le {f : Nat → Nat} {n b : Nat} : mostF f n ≤ b ↔ ∀ x, x < n → f x ≤ b := by
  unfold mostF
  rw [foldmax_le]
  simp
theorem most_mem {f : Nat → Nat} {n x : Nat} (h : x < n) : f x ≤ mostF f n := most_le.1 (Nat.le_refl _) x h
theorem most_congr {f g : Nat → Nat} {n : Nat} (h : ∀ x, x < n → f x = g x) : mostF f n = mostF g n := foldmax_congr (fun k hk => h k (List.mem_range.1 hk))
theorem most_succ (f : Nat → Nat) (n : Nat) : mostF f (n + 1) = max (mostF f n) (f n) := by
  unfold mostF
  rw [List.range_succ, List.foldl_append]
  rfl
theorem most_mono {f g : Nat → Nat} {n : Nat} (h : ∀ x, x < n → f x ≤ g x) : mostF f n ≤ mostF g n := most_le.2 fun x hx => Nat.le_trans (h x hx) (most_mem hx)
section
variable {n : Nat} {nx : Nat → List Nat} {op : Nat → Bool}
theorem lg_closed {op : Nat → Bool} {x : Nat} (h : op x = false) (r : Nat) : lg nx op r x = 0 := by
  cases r with
  | zero => rfl
  | succ r => simp [lg, h]
theorem lg_mono {op op' : Nat → Bool} (h : ∀ x, op' x = true → op x = true) (r x : Nat) : lg nx op' r x ≤ lg nx op r x := by
  induction r generalizing x with
  | zero => exact Nat.le_refl _
  | succ r ih =>
    unfold lg
    by_cases hx : op' x = true
    · rw [if_pos hx, if_pos (h x hx), foldmax_le]
      exact ⟨foldmax_ge, fun k hk => Nat.le_trans (by have := ih k; omega) (foldmax_mem (f := fun k => 1 + lg nx op r k) hk)⟩
    · rw [if_neg hx]
      exact Nat.zero_le _
/-- Fewer open places have a gap that is no greater. -/
theorem gap_mono {op op' : Nat → Bool} (h : ∀ x, op' x = true → op x = true) (hg : (gapG n nx op).2 = true) : (gapG n nx op').2 = true ∧ (gapG n nx op').1 ≤ (gapG n nx op).1 := by
  have hm : mostF (lg nx op' (n + 1)) n ≤ mostF (lg nx op (n + 1)) n := most_mono fun x _ => lg_mono h _ x
  unfold gapG at hg ⊢
  by_cases hx : n < mostF (lg nx op (n + 1)) n
  · rw [if_pos hx] at hg
    cases hg
  · rw [if_neg hx, if_neg (by omega)]
    exact ⟨rfl, hm⟩
theorem gap_none {op : Nat → Bool} (h : ∀ x, op x = false) : gapG n nx op = (0, true) := by
  have hm : mostF (lg nx op (n + 1)) n = 0 := by
    have := (most_le (f := lg nx op (n + 1)) (n := n) (b := 0)).2 fun x _ => by rw [lg_closed (h x)]; exact Nat.le_refl _
    omega
  unfold gapG
  rw [hm, if_neg (Nat.not_lt_zero _)]
/-- A path of open places from x to y. -/
inductive Pth (nx : Nat → List Nat) (op : Nat → Bool) : Nat → Nat → Prop
  | one {x y : Nat} : op x = true → y ∈ nx x → op y = true → Pth nx op x y
  | step {x y z : Nat} : op x = true → y ∈ nx x → Pth nx op y z → Pth nx op x z
theorem Pth.trans {x y z : Nat} (h : Pth nx op x y) (k : Pth nx op y z) : Pth nx op x z := by
  induction h with
  | one h1 h2 _ => exact .step h1 h2 k
  | step h1 h2 _ ih => exact .step h1 h2 (ih k)
theorem Pth.open_ {x y : Nat} (h : Pth nx op x y) : op x = true := by cases h <;> assumption
/-- Where a place comes to itself, rows are as long as one likes. -/
theorem cyc_lg {x : Nat} (hx : Pth nx op x x) (r y : Nat) (hy : y = x ∨ Pth nx op y x) : r ≤ lg nx op r y := by
  induction r generalizing y with
  | zero => exact Nat.zero_le _
  | succ r ih =>
    have hp : Pth nx op y x := by
      rcases hy with rfl | h
      · exact hx
      · exact h
    have key : ∃ z, z ∈ nx y ∧ (z = x ∨ Pth nx op z x) := by
      cases hp with
      | one _ h2 _ => exact ⟨x, h2, .inl rfl⟩
      | step _ h2 h3 => exact ⟨_, h2, .inr h3⟩
    obtain ⟨z, hz, hzx⟩ := key
    have h1 := ih z hzx
    unfold lg
    rw [if_pos hp.open_]
    have := foldmax_mem (f := fun k => 1 + lg nx op r k) (a := 1) hz
    omega
theorem gap_cyc {x : Nat} (hn : x < n) (hx : Pth nx op x x) : gapG n nx op = (0, false) := by
  unfold gapG
  have h1 := cyc_lg hx (n + 1) x (.inl rfl)
  have h2 := most_mem (f := lg nx op (n + 1)) hn
  rw [if_pos (by omega)]
/-- What a walk into the depth has found: m: 0 fresh, 1 under, 2 done; l: how long. -/
structure Dfs (n : Nat) (nx : Nat → List Nat) (op : Nat → Bool) (m l : List Nat) : Prop where
  hm : m.length = n
  hl : l.length = n
  le : ∀ x, m.getD x 0 ≤ 2
  done : ∀ x, m.getD x 0 = 2 → op x = true ∧ (∀ k ∈ nx x, op k = true → m.getD k 0 = 2) ∧ l.getD x 0 = (nx x).foldl (fun a k => max a (1 + l.getD k 0)) 1 ∧ l.getD x 0 ≤ m.count 2
  zero : ∀ x, m.getD x 0 = 0 → l.getD x 0 = 0
  shut : ∀ x, op x = false → m.getD x 0 = 0
/-- What was not fresh stays; what is fresh was so. -/
structure Ext (m l m' l' : List Nat) : Prop where
  keep : ∀ x, m.getD x 0 ≠ 0 → m'.getD x 0 = m.getD x 0 ∧ l'.getD x 0 = l.getD x 0
  und : ∀ x, m'.getD x 0 = 1 → m.getD x 0 = 1
theorem Ext.refl (m l : List Nat) : Ext m l m l := ⟨fun _ _ => ⟨rfl, rfl⟩, fun _ h => h⟩
theorem Ext.trans {m l m' l' m2 l2 : List Nat} (h : Ext m l m' l') (k : Ext m' l' m2 l2) : Ext m l m2 l2 := by
  refine ⟨fun x hx => ?_, fun x hx => h.und x (k.und x hx)⟩
  obtain ⟨h1, h2⟩ := h.keep x hx
  obtain ⟨h3, h4⟩ := k.keep x (by rw [h1]; exact hx)
  exact ⟨h3.trans h1, h4.trans h2⟩
theorem getD_set (l : List Nat) (i j v : Nat) (hi : i < l.length) : (l.set i v).getD j 0 = if i = j then v else l.getD j 0 := by
  simp only [List.getD_eq_getElem?_getD, List.getElem?_set]
  by_cases e : i = j
  · subst e
    simp [hi]
  · rw [if_neg e, if_neg e]
theorem count_set {l : List Nat} {i : Nat} (hi : i < l.length) (a b c : Nat) (ha : l.getD i 0 = a) : (l.set i b).count c + (if a = c then 1 else 0) = l.count c + if b = c then 1 else 0 := by
  induction l generalizing i with
  | nil => exact absurd hi (Nat.not_lt_zero _)
  | cons x l ih =>
    cases i with
    | zero =>
      have : x = a := by simpa using ha
      subst this
      simp only [List.set_cons_zero, List.count_cons, beq_iff_eq]
      omega
    | succ i =>
      have := ih (i := i) (by simpa using hi) (by simpa using ha)
      simp only [List.set_cons_succ, List.count_cons, beq_iff_eq]
      omega
/-- How many are fresh. -/
theorem fresh_le {m m' : List Nat} (hlen : m.length = m'.length) (h : ∀ x, x < m.length → m'.getD x 0 = 0 → m.getD x 0 = 0) : m'.count 0 ≤ m.count 0 := by
  induction m generalizing m' with
  | nil =>
    have : m' = [] := List.length_eq_zero_iff.1 hlen.symm
    rw [this]
    exact Nat.le_refl _
  | cons a m ih =>
    cases m' with
    | nil => cases hlen
    | cons b m' =>
      have h1 := ih (m' := m') (by simpa using hlen) (fun x hx h0 => by
        have := h (x + 1) (by simpa using hx) (by simpa using h0)
        simpa using this)
      have h2 := h 0 (by simp)
      simp only [List.getD_cons_zero] at h2
      simp only [List.count_cons, beq_iff_eq]
      by_cases hb : b = 0
      · rw [if_pos hb, if_pos (h2 hb)]; omega
      · rw [if_neg hb]; omega
theorem Ext.fresh {m l m' l' : List Nat} (h : Ext m l m' l') (hlen : m.length = m'.length) : m'.count 0 ≤ m.count 0 :=
  fresh_le hlen fun x _ h0 => by
    by_cases hx : m.getD x 0 = 0
    · exact hx
    · have := (h.keep x hx).1
      omega
theorem getD_big {l : List Nat} {x : Nat} (h : l.length ≤ x) : l.getD x 0 = 0 := by
  rw [List.getD_eq_getElem?_getD, List.getElem?_eq_none h]
  rfl
/-- A place is begun. -/
theorem Dfs.begin {m l : List Nat} {x : Nat} (h : Dfs n nx op m l) (hx : x < n) (ho : op x = true) (h0 : m.getD x 0 = 0) : Dfs n nx op (m.set x 1) l ∧ (m.set x 1).count 0 < m.count 0 := by
  have hxm : x < m.length := by rw [h.hm]; exact hx
  have hc0 := count_set hxm 0 1 0 h0
  have hc2 := count_set hxm 0 1 2 h0
  simp at hc0 hc2
  refine ⟨⟨by rw [List.length_set, h.hm], h.hl, fun y => ?_, fun y hy => ?_, fun y hy => ?_, fun y hy => ?_⟩, by omega⟩
  · rw [getD_set _ _ _ _ hxm]
    split
    · omega
    · exact h.le y
  · rw [getD_set _ _ _ _ hxm] at hy
    split at hy
    · cases hy
    · obtain ⟨h1, h2, h3, h4⟩ := h.done y hy
      refine ⟨h1, fun k hk hok => ?_, h3, by omega⟩
      have := h2 k hk hok
      rw [getD_set _ _ _ _ hxm, if_neg (by intro e; subst e; omega)]
      exact this
  · rw [getD_set _ _ _ _ hxm] at hy
    split at hy
    · cases hy
    · exact h.zero y hy
  · rw [getD_set _ _ _ _ hxm, if_neg (by intro e; subst e; rw [ho] at hy; cases hy)]
    exact h.shut y hy
/-- How long a row is so far, of a place that is under. -/
theorem Dfs.setL {m l : List Nat} {x v : Nat} (h : Dfs n nx op m l) (hx : m.getD x 0 = 1) : Dfs n nx op m (l.set x v) := by
  have hxm : x < m.length := by
    rcases Nat.lt_or_ge x m.length with h1 | h1
    · exact h1
    · rw [getD_big h1] at hx; cases hx
  have hxl : x < l.length := by rw [h.hl, ← h.hm]; exact hxm
  have hox : op x = true := by
    cases ho : op x with
    | true => rfl
    | false => rw [h.shut x ho] at hx; cases hx
  refine ⟨h.hm, by rw [List.length_set, h.hl], h.le, fun y hy => ?_, fun y hy => ?_, h.shut⟩
  · obtain ⟨h1, h2, h3, h4⟩ := h.done y hy
    have hne : x ≠ y := by intro e; subst e; omega
    refine ⟨h1, h2, ?_, by rw [getD_set _ _ _ _ hxl, if_neg hne]; exact h4⟩
    rw [getD_set _ _ _ _ hxl, if_neg hne, h3]
    refine foldmax_congr (f := fun k => 1 + l.getD k 0) (g := fun k => 1 + (l.set x v).getD k 0) fun k hk => ?_
    rw [getD_set _ _ _ _ hxl]
    split
    · rename_i e
      subst e
      have := h2 x hk hox
      omega
    · rfl
  · rw [getD_set _ _ _ _ hxl, if_neg (by intro e; subst e; omega)]
    exact h.zero y hy
/-- In the loop over what comes next to x: j of these are done with. -/
structure Rd (n : Nat) (nx : Nat → List Nat) (op : Nat → Bool) (m l : List Nat) (x j : Nat) (mj lj : List Nat) : Prop where
  d : Dfs n nx op mj lj
  at_ : mj.getD x 0 = 1
  run : lj.getD x 0 = ((nx x).take j).foldl (fun a k => max a (lj.getD k 0)) 0
  seen : ∀ k ∈ (nx x).take j, op k = true → mj.getD k 0 = 2
  keep : ∀ y, m.getD y 0 ≠ 0 → mj.getD y 0 = m.getD y 0 ∧ lj.getD y 0 = l.getD y 0
  und : ∀ y, mj.getD y 0 = 1 → y = x ∨ m.getD y 0 = 1
  cnt : mj.count 0 < m.count 0
  fr : m.getD x 0 = 0
theorem Rd.start {m l : List Nat} {x : Nat} (h : Dfs n nx op m l) (hx : x < n) (ho : op x = true) (h0 : m.getD x 0 = 0) : Rd n nx op m l x 0 (m.set x 1) l := by
  have hxm : x < m.length := by rw [h.hm]; exact hx
  obtain ⟨h1, h2⟩ := h.begin hx ho h0
  refine ⟨h1, by rw [getD_set _ _ _ _ hxm, if_pos rfl], by rw [h.zero x h0]; rfl, fun k hk => by simp at hk, fun y hy => ⟨?_, rfl⟩, fun y hy => ?_, h2, h0⟩
  · rw [getD_set _ _ _ _ hxm, if_neg (by intro e; subst e; exact hy h0)]
  · rw [getD_set _ _ _ _ hxm] at hy
    split at hy
    · rename_i e; exact .inl e.symm
    · exact .inr hy
theorem Dfs.open_ {m l : List Nat} {x : Nat} (h : Dfs n nx op m l) (hx : m.getD x 0 ≠ 0) : op x = true ∧ x < n := by
  constructor
  · cases ho : op x with
    | true => rfl
    | false => exact absurd (h.shut x ho) hx
  · rcases Nat.lt_or_ge x m.length with h1 | h1
    · rw [← h.hm]; exact h1
    · exact absurd (getD_big h1) hx
theorem Rd.open_ {m l mj lj : List Nat} {x j : Nat} (h : Rd n nx op m l x j mj lj) : op x = true ∧ x < n := h.d.open_ (by rw [h.at_]; decide)
theorem Rd.not_self {m l mj lj : List Nat} {x j : Nat} (h : Rd n nx op m l x j mj lj) : x ∉ (nx x).take j := fun hx => by
  have h1 := h.seen x hx h.open_.1
  have h2 := h.at_
  omega
/-- What is under comes to the next one. -/
theorem Rd.path {m l mj lj : List Nat} {x j k : Nat} (h : Rd n nx op m l x j mj lj) (hu : ∀ y, m.getD y 0 = 1 → Pth nx op y x) (hk : k ∈ nx x) (hok : op k = true) : ∀ y, mj.getD y 0 = 1 → Pth nx op y k := fun y hy => by
  have h1 : Pth nx op x k := .one h.open_.1 hk hok
  rcases h.und y hy with rfl | h2
  · exact h1
  · exact (hu y h2).trans h1
/-- The next one was walked into. -/
theorem Rd.next {m l mj lj m' l' : List Nat} {x j k : Nat} (h : Rd n nx op m l x j mj lj) (hj : (nx x)[j]? = some k) (hd : Dfs n nx op m' l') (he : Ext mj lj m' l') (hk : op k = true → m'.getD k 0 = 2) :
    Rd n nx op m l x (j + 1) m' (l'.set x (max (l'.getD x 0) (l'.getD k 0))) := by
  have hx1 := (he.keep x (by rw [h.at_]; decide)).1.trans h.at_
  have hxl : x < l'.length := by rw [hd.hl]; exact h.open_.2
  have htk : (nx x).take (j + 1) = (nx x).take j ++ [k] := by rw [List.take_add_one, hj]; rfl
  have hkx : k ≠ x := by
    rintro rfl
    have := hk h.open_.1
    omega
  have hold : ∀ y ∈ (nx x).take j, l'.getD y 0 = lj.getD y 0 := fun y hy => by
    cases hoy : op y with
    | true => exact (he.keep y (by rw [h.seen y hy hoy]; decide)).2
    | false => rw [hd.zero y (hd.shut y hoy), h.d.zero y (h.d.shut y hoy)]
  refine ⟨hd.setL hx1, hx1, ?_, fun y hy hoy => ?_, fun y hy => ?_, fun y hy => h.und y (he.und y hy), ?_, h.fr⟩
  · rw [htk, List.foldl_append, getD_set _ _ _ _ hxl, if_pos rfl]
    show _ = max _ _
    rw [getD_set _ _ _ _ hxl, if_neg (Ne.symm hkx)]
    congr 1
    refine ((he.keep x (by rw [h.at_]; decide)).2.trans h.run).trans ?_
    refine foldmax_congr (f := fun k => lj.getD k 0) (g := fun i => (l'.set x (max (l'.getD x 0) (l'.getD k 0))).getD i 0) fun y hy => ?_
    rw [getD_set _ _ _ _ hxl, if_neg (by rintro rfl; exact h.not_self hy), hold y hy]
  · rw [htk] at hy
    rcases List.mem_append.1 hy with hy | hy
    · have := h.seen y hy hoy
      rw [(he.keep y (by rw [this]; decide)).1, this]
    · rw [List.mem_singleton] at hy
      subst hy
      exact hk hoy
  · obtain ⟨h1, h2⟩ := h.keep y hy
    obtain ⟨h3, h4⟩ := he.keep y (by rw [h1]; exact hy)
    refine ⟨h3.trans h1, ?_⟩
    rw [getD_set _ _ _ _ hxl]
    split
    · rename_i e
      subst e
      exact absurd h.fr hy
    · exact h4.trans h2
  · exact Nat.lt_of_le_of_lt (he.fresh (by rw [h.d.hm, hd.hm])) h.cnt
/-- All that comes next was walked into: the place is done. -/
theorem Rd.finish {m l mj lj : List Nat} {x j : Nat} (h : Rd n nx op m l x j mj lj) (hj : (nx x).length ≤ j) : Dfs n nx op (mj.set x 2) (lj.set x (lj.getD x 0 + 1)) ∧ Ext m l (mj.set x 2) (lj.set x (lj.getD x 0 + 1)) ∧ (mj.set x 2).getD x 0 = 2 := by
  have htk : (nx x).take j = nx x := List.take_of_length_le hj
  have hrun := h.run
  have hseen := h.seen
  have hself := h.not_self
  rw [htk] at hrun hseen hself
  have hxm : x < mj.length := by rw [h.d.hm]; exact h.open_.2
  have hxl : x < lj.length := by rw [h.d.hl]; exact h.open_.2
  have hc2 := count_set hxm 1 2 2 h.at_
  simp at hc2
  have hL : ∀ y, y ≠ x → (lj.set x (lj.getD x 0 + 1)).getD y 0 = lj.getD y 0 := fun y hy => by rw [getD_set _ _ _ _ hxl, if_neg (Ne.symm hy)]
  have hM : ∀ y, y ≠ x → (mj.set x 2).getD y 0 = mj.getD y 0 := fun y hy => by rw [getD_set _ _ _ _ hxm, if_neg (Ne.symm hy)]
  have hLx : (lj.set x (lj.getD x 0 + 1)).getD x 0 = lj.getD x 0 + 1 := by rw [getD_set _ _ _ _ hxl, if_pos rfl]
  have hMx : (mj.set x 2).getD x 0 = 2 := by rw [getD_set _ _ _ _ hxm, if_pos rfl]
  refine ⟨⟨by rw [List.length_set, h.d.hm], by rw [List.length_set, h.d.hl], fun y => ?_, fun y hy => ?_, fun y hy => ?_, fun y hy => ?_⟩, ⟨fun y hy => ?_, fun y hy => ?_⟩, hMx⟩
  · by_cases e : y = x
    · rw [e, hMx]; decide
    · rw [hM y e]; exact h.d.le y
  · by_cases e : y = x
    · subst e
      refine ⟨h.open_.1, fun k hk hok => ?_, ?_, ?_⟩
      · rw [hM k (by rintro rfl; exact hself hk)]
        exact hseen k hk hok
      · rw [hLx]
        refine (congrArg (· + 1) hrun).trans ?_
        refine (foldmax_one (f := fun k => lj.getD k 0)).symm.trans ?_
        refine foldmax_congr (f := fun k => 1 + lj.getD k 0) (g := fun k => 1 + (lj.set y (lj.getD y 0 + 1)).getD k 0) fun k hk => ?_
        rw [hL k (by rintro rfl; exact hself hk)]
      · rw [hLx, hc2, hrun]
        have : (nx y).foldl (fun a k => max a (lj.getD k 0)) 0 ≤ mj.count 2 := (foldmax_le (f := fun k => lj.getD k 0)).2 ⟨Nat.zero_le _, fun k hk => by
          cases hok : op k with
          | true => exact (h.d.done k (hseen k hk hok)).2.2.2
          | false => rw [h.d.zero k (h.d.shut k hok)]; exact Nat.zero_le _⟩
        omega
    · rw [hM y e] at hy
      obtain ⟨h1, h2, h3, h4⟩ := h.d.done y hy
      refine ⟨h1, fun k hk hok => ?_, ?_, by rw [hL y e]; omega⟩
      · have := h2 k hk hok
        rw [hM k (by rintro rfl; have := h.at_; omega)]
        exact this
      · rw [hL y e, h3]
        refine foldmax_congr (f := fun k => 1 + lj.getD k 0) (g := fun k => 1 + (lj.set x _).getD k 0) fun k hk => ?_
        rw [hL k]
        rintro rfl
        have h5 := h2 k hk h.open_.1
        have h6 := h.at_
        omega
  · by_cases e : y = x
    · rw [e, hMx] at hy; cases hy
    · rw [hM y e] at hy
      rw [hL y e]
      exact h.d.zero y hy
  · rw [hM y (by rintro rfl; rw [h.open_.1] at hy; cases hy)]
    exact h.d.shut y hy
  · have e : y ≠ x := by rintro rfl; exact hy h.fr
    rw [hM y e, hL y e]
    exact h.keep y hy
  · by_cases e : y = x
    · rw [e, hMx] at hy; cases hy
    · rw [hM y e] at hy
      rcases h.und y hy with h1 | h1
      · exact absurd h1 e
      · exact h1
theorem foldmax_min {f : Nat → Nat} {l : List Nat} {a r : Nat} : l.foldl (fun a k => max a (min r (f k))) (min r a) = min r (l.foldl (fun a k => max a (f k)) a) := by
  induction l generalizing a with
  | nil => rfl
  | cons x l ih =>
    rw [List.foldl_cons, List.foldl_cons, ← ih]
    congr 1
    omega
theorem Dfs.lg_eq {m l : List Nat} (h : Dfs n nx op m l) (r x : Nat) (hx : op x = true → m.getD x 0 = 2) : lg nx op r x = min r (l.getD x 0) := by
  induction r generalizing x with
  | zero => simp [lg]
  | succ r ih =>
    cases ho : op x with
    | false =>
      rw [lg_closed ho, h.zero x (h.shut x ho)]
      simp
    | true =>
      obtain ⟨-, h2, h3, -⟩ := h.done x (hx ho)
      unfold lg
      rw [if_pos ho, h3]
      have h4 : (nx x).foldl (fun a k => max a (1 + lg nx op r k)) 1 = (nx x).foldl (fun a k => max a (min (r + 1) (1 + l.getD k 0))) (min (r + 1) 1) := by
        rw [show min (r + 1) 1 = 1 by omega]
        refine foldmax_congr (f := fun k => 1 + lg nx op r k) (g := fun k => min (r + 1) (1 + l.getD k 0)) fun k hk => ?_
        rw [ih k (fun hok => h2 k hk hok)]
        omega
      rw [h4, foldmax_min (f := fun k => 1 + l.getD k 0)]
/-- All open places are done: the longest row is what was found. -/
theorem Dfs.gap {m l : List Nat} (h : Dfs n nx op m l) (hx : ∀ x, x < n → op x = true → m.getD x 0 = 2) : gapG n nx op = (mostF (fun x => l.getD x 0) n, true) := by
  have hl : ∀ x, x < n → l.getD x 0 ≤ n := fun x hxn => by
    cases ho : op x with
    | false => rw [h.zero x (h.shut x ho)]; exact Nat.zero_le _
    | true =>
      have h1 := (h.done x (hx x hxn ho)).2.2.2
      have h2 := List.count_le_length (a := 2) (l := m)
      rw [h.hm] at h2
      omega
  have he : mostF (lg nx op (n + 1)) n = mostF (fun x => l.getD x 0) n := most_congr fun x hxn => by
    rw [h.lg_eq _ x (hx x hxn)]
    have := hl x hxn
    omega
  unfold gapG
  rw [he, if_neg]
  have := (most_le (f := fun x => l.getD x 0)).2 hl
  omega
theorem Dfs.new (n : Nat) (nx : Nat → List Nat) (op : Nat → Bool) : Dfs n nx op (List.replicate n 0) (List.replicate n 0) := by
  have h0 : ∀ x, (List.replicate n 0).getD x 0 = 0 := fun x => by
    rw [List.getD_eq_getElem?_getD, List.getElem?_replicate]
    split <;> rfl
  exact ⟨by simp, by simp, fun x => by rw [h0]; decide, fun x hx => (by rw [h0] at hx; cases hx), fun x _ => h0 x, fun x _ => h0 x⟩
/-- Whoever goes on within open places: s steps from x. -/
inductive Goes (nx : Nat → List Nat) (op : Nat → Bool) (a : Nat) : Nat → Nat → Prop
  | here : Goes nx op a 0 a
  | on {s x y : Nat} : Goes nx op a s x → op x = true → y ∈ nx x → Goes nx op a (s + 1) y
theorem Goes.lg {a s x : Nat} (h : Goes nx op a s x) (r : Nat) : s + lg nx op r x ≤ lg nx op (r + s) a := by
  induction h generalizing r with
  | here => simp
  | @on s x y _ h2 h3 ih =>
    have h4 := ih (r + 1)
    have h5 : 1 + Go.Proofs.YtfgaonkoaolffaaDoor.lg nx op r y ≤ Go.Proofs.YtfgaonkoaolffaaDoor.lg nx op (r + 1) x := by
      conv => rhs; unfold Go.Proofs.YtfgaonkoaolffaaDoor.lg
      rw [if_pos h2]
      exact foldmax_mem (f := fun k => 1 + Go.Proofs.YtfgaonkoaolffaaDoor.lg nx op r k) h3
    rw [show r + (s + 1) = r + 1 + s by omega]
    omega
theorem lg_grow (r x : Nat) : lg nx op r x ≤ lg nx op (r + 1) x := by
  induction r generalizing x with
  | zero => exact Nat.zero_le _
  | succ r ih =>
    unfold lg
    split
    · rw [foldmax_le]
      exact ⟨foldmax_ge, fun k hk => Nat.le_trans (by have := ih k; omega) (foldmax_mem (f := fun k => 1 + lg nx op (r + 1) k) hk)⟩
    · exact Nat.le_refl _
theorem lg_grows {r s : Nat} (h : r ≤ s) (x : Nat) : lg nx op r x ≤ lg nx op s x := by
  induction h with
  | refl => exact Nat.le_refl _
  | step _ ih => exact Nat.le_trans ih (lg_grow _ _)
/-- Whoever stands at an open place behind s steps has gone no more than the gap says. -/
theorem Goes.few {a s x : Nat} (h : Goes nx op a s x) (ha : a < n) (hx : op x = true) (hs : s ≤ n) (hg : (gapG n nx op).2 = true) : s + 1 ≤ (gapG n nx op).1 := by
  have h1 : 1 ≤ Go.Proofs.YtfgaonkoaolffaaDoor.lg nx op 1 x := by
    unfold Go.Proofs.YtfgaonkoaolffaaDoor.lg
    rw [if_pos hx]
    exact foldmax_ge
  have h2 := h.lg 1
  have h3 := lg_grows (nx := nx) (op := op) (show 1 + s ≤ n + 1 by omega) a
  have h4 := most_mem (f := Go.Proofs.YtfgaonkoaolffaaDoor.lg nx op (n + 1)) ha
  unfold gapG at hg ⊢
  by_cases hc : n < mostF (Go.Proofs.YtfgaonkoaolffaaDoor.lg nx op (n + 1)) n
  · rw [if_pos hc] at hg; cases hg
  · rw [if_neg hc]
    show s + 1 ≤ mostF (Go.Proofs.YtfgaonkoaolffaaDoor.lg nx op (n + 1)) n
    omega
theorem gap_lt (hg : (gapG n nx op).2 = true) : (gapG n nx op).1 ≤ n := by
  unfold gapG at hg ⊢
  by_cases hc : n < mostF (lg nx op (n + 1)) n
  · rw [if_pos hc] at hg; cases hg
  · rw [if_neg hc]
    show mostF (lg nx op (n + 1)) n ≤ n
    omega
end
end Go.Proofs.YtfgaonkoaolffaaDoor

/-
  Arguments opened to plain lists: slices of whatever elements; bools; functions of the bytecode by value. No function of the program in sight.
-/
import Derived.Test.YtfgaonkoaolffaaDoorMem
import Derived.Deep.Slices
import Derived.Lib.SmallJoins
namespace Go.Proofs.YtfgaonkoaolffaaDoor
open Go.RowKit Go.ChangeShapes Go.WideShapes Go.Deep Go.Joins
section
variable {α : Type} {f : α → List Value} {size : Nat}
theorem flat_get (hsz : ∀ a, (f a).length = size) (hpos : 0 < size) : ∀ (l : List α) (j : Nat) (u : Value), (l.flatMap f)[j]? = some u → ∃ a, l[j / size]? = some a ∧ (f a)[j % size]? = some u
  | [], j, u, h => by simp at h
  | a :: l, j, u, h => by
    rw [List.flatMap_cons, List.getElem?_append] at h
    rw [hsz a] at h
    by_cases hj : j < size
    · rw [if_pos hj] at h
      refine ⟨a, ?_, ?_⟩
      · rw [Nat.div_eq_of_lt hj]; rfl
      · rw [Nat.mod_eq_of_lt hj]; exact h
    · rw [if_neg hj] at h
      obtain ⟨b, h1, h2⟩ := flat_get hsz hpos l (j - size) u h
      refine ⟨b, ?_, ?_⟩
      · have e : j / size = (j - size) / size + 1 := by
          rw [← Nat.add_div_right _ hpos]; congr 1; omega
        rw [e]; simpa using h1
      · have e : j % size = (j - size) % size := by
          conv => lhs; rw [show j = (j - size) + size by omega]
          simp
        rw [e]; exact h2
theorem flat_at (hsz : ∀ a, (f a).length = size) : ∀ (l : List α) (i r : Nat) (a : α) (u : Value), l[i]? = some a → (f a)[r]? = some u → (l.flatMap f)[i * size + r]? = some u
  | [], i, r, a, u, h, _ => by simp at h
  | b :: l, i, r, a, u, h, hu => by
    rw [List.flatMap_cons, List.getElem?_append, hsz b]
    have hr : r < size := by rw [← hsz a]; exact (List.getElem?_eq_some_iff.1 hu).1
    cases i with
    | zero =>
      simp at h
      subst h
      rw [if_pos (by omega)]
      simpa using hu
    | succ i =>
      have e : (i + 1) * size = i * size + size := Nat.succ_mul i size
      rw [if_neg (by omega)]
      have := flat_at hsz l i r a u (by simpa using h) hu
      rw [← this]; congr 1; omega
theorem flat_one (g : α → Value) : ∀ l : List α, l.flatMap (fun a => [g a]) = l.map g
  | [] => rfl
  | a :: l => by rw [List.flatMap_cons, flat_one g l]; rfl
theorem flat_length (hsz : ∀ a, (f a).length = size) : ∀ l : List α, (l.flatMap f).length = l.length * size
  | [] => by simp
  | a :: l => by rw [List.flatMap_cons, List.length_append, hsz a, flat_length hsz l, List.length_cons, Nat.succ_mul]; omega
end
section
variable {H : Type} {enc : TypeId × Value → H} {P : Program} {w : World} {base : Nat} {held : Bool}
theorem open_slice_of {α : Type} (f : α → List Value) (size : Nat) (hsz : ∀ a, (f a).length = size) (hpos : 0 < size) (good : α → Prop) {t e : TypeId} {fuel : Nat} {v : Value} {x : DataW H × List MemPlace}
    (ht : P.underlying t = some (.slice e)) (hC : P.cellsOf e = size)
    (hel : ∀ (n : Nat) (cs : List Value) (y : DataW H × List MemPlace), DataW.trod enc P w base (fun _ => true) held n e cs = some y → (∀ q ∈ y.2, q.block < w.heap.size) → ∃ a, cs = f a ∧ good a)
    (h : DataW.trod enc P w base (fun _ => true) held fuel t [v] = some x) (hlt : ∀ q ∈ x.2, q.block < w.heap.size) :
    ∃ (A : Option Addr) (n c : Nat) (l : List α), v = .slice A n c ∧ l.length = n ∧ n ≤ c ∧ c ≤ maxLen ∧ (∀ a ∈ l, good a) ∧ Row w w.heap.size A (l.flatMap f) := by
  rcases open_slice ht h with ⟨hcs, hx⟩ | ⟨a, len, cap, m, n, D, Pl, hcs, hb, hl, hm, hmm, hx, hi⟩
  · simp at hcs
    exact ⟨none, 0, 0, [], hcs, rfl, Nat.le_refl _, by simp [maxLen], by simp, .inl rfl⟩
  · simp at hcs
    simp at hmm
    subst hmm
    have each : ∀ i, i < len → ∃ a' : α, w.cells? base (a.add (i * size)) size = some (f a') ∧ good a' := by
      intro i hil
      obtain ⟨cs', h1, h2⟩ := hi i (by omega)
      rw [hC] at h1
      obtain ⟨a', e1, e2⟩ := hel n cs' (D i, Pl i) h2 (fun q hq => hlt q (by
        rw [hx]
        simp only [List.mem_append, List.mem_flatMap, List.mem_range]
        exact .inr ⟨i, by omega, hq⟩))
      exact ⟨a', by rw [h1, e1], e2⟩
    have build : ∀ k, k ≤ len → ∃ l : List α, l.length = k ∧ ∀ i (hi : i < l.length), w.cells? base (a.add (i * size)) size = some (f l[i]) ∧ good l[i] := by
      intro k
      induction k with
      | zero => intro _; exact ⟨[], rfl, fun i hi => by simp at hi⟩
      | succ k ih =>
        intro hk
        obtain ⟨l, h1, h2⟩ := ih (by omega)
        obtain ⟨a', h3, h4⟩ := each k (by omega)
        refine ⟨l ++ [a'], by simp [h1], fun i hi => ?_⟩
        by_cases hik : i < l.length
        · rw [List.getElem_append_left hik]; exact h2 i hik
        · have : i = k := by simp at hi; omega
          subst this
          rw [List.getElem_append_right (by omega)]
          simp [h1]
          exact ⟨h3, h4⟩
    obtain ⟨l, h1, h2⟩ := build len (Nat.le_refl _)
    refine ⟨some a, len, _, l, hcs, h1, hl, hm, fun a' ha => ?_, ?_⟩
    · obtain ⟨i, hi, rfl⟩ := List.mem_iff_getElem.1 ha
      exact (h2 i hi).2
    · rcases Nat.eq_zero_or_pos len with h0 | h0
      · left
        have : l = [] := List.eq_nil_of_length_eq_zero (by omega)
        rw [this]; rfl
      · right
        have hc0 := (h2 0 (by omega)).1
        obtain ⟨_, _, hat⟩ := World.cells?_some hc0
        have hsp : a.spot = none := by
          have h00 := hat 0 hpos
          rw [List.getElem?_eq_getElem (by rw [hsz]; exact hpos)] at h00
          simpa [Addr.add] using World.cell?_spot h00
        obtain ⟨b, off, spot⟩ := a
        simp only at hsp
        subst hsp
        refine ⟨b, off, rfl, ?_, fun j u hu => ?_⟩
        · refine hlt (.cell b off) ?_
          rw [hx, hC]
          refine List.mem_append.2 (.inl (MemPlace.mem_row.2 ⟨0, ?_, rfl⟩))
          exact Nat.mul_pos (by omega) hpos
        · obtain ⟨a', e1, e2⟩ := flat_get hsz hpos l j u hu
          have hjl : j / size < l.length := (List.getElem?_eq_some_iff.1 e1).1
          have hcj := (h2 (j / size) hjl).1
          obtain ⟨_, _, hat'⟩ := World.cells?_some hcj
          have hmod := hat' (j % size) (Nat.mod_lt _ hpos)
          have ea : l[j / size] = a' := by
            rw [List.getElem?_eq_getElem hjl] at e1; injection e1
          rw [ea, e2, Go.Deep.add_add] at hmod
          have ej : j / size * size + j % size = j := by rw [Nat.mul_comm]; exact Nat.div_add_mod j size
          rw [ej] at hmod
          rw [← Go.WideShapes.add_plain]
          exact hmod
/-- A struct of one-cell fields, as cells. -/
theorem open_fields {t : TypeId} {fs : Array Field} {fuel : Nat} {cs : List Value} {x : DataW H × List MemPlace} {spare : Nat → Bool} (hs : P.underlying t = some (.struct fs)) (hone : oneCellFields P fs = true)
    (hC : P.cellsOf t = fs.size) (h : DataW.trod enc P w base spare held fuel t cs = some x) :
    cs.length = fs.size ∧ ∃ n, ∀ (j : Nat) (f : Field), fs[j]? = some f → ∃ (v : Value) (y : DataW H × List MemPlace), cs[j]? = some v ∧ DataW.trod enc P w base spare held n f.type [v] = some y ∧ ∀ q ∈ y.2, q ∈ x.2 := by
  obtain ⟨xs, n, _, hx, hlen, hxl, hf⟩ := DataW.trod_struct hs h
  refine ⟨hlen.trans hC, n, fun j f hj => ?_⟩
  obtain ⟨ho, hk⟩ := hone_of hone j f hj
  have hjl : j < fs.size := (Array.getElem?_eq_some_iff.1 hj).1
  have hcl : j < cs.length := by rw [hlen, hC]; exact hjl
  have h1 := hf j f hj
  rw [ho, hk] at h1
  have hone' : (cs.drop j).take 1 = [cs[j]] := by
    rw [List.drop_eq_getElem_cons hcl]
    rfl
  rw [hone'] at h1
  have hys : xs[j]? = some (xs[j]'(by omega)) := List.getElem?_eq_getElem (by omega)
  refine ⟨_, _, List.getElem?_eq_getElem hcl, h1.trans hys, fun q hq => ?_⟩
  rw [hx]
  simp only [List.mem_flatMap]
  exact ⟨_, List.getElem_mem (by omega), hq⟩
/-- Bools. -/
theorem open_bools {t e : TypeId} {fuel : Nat} {v : Value} {x : DataW H × List MemPlace} (ht : P.underlying t = some (.slice e)) (he : P.underlying e = some .bool) (hC : P.cellsOf e = 1)
    (h : DataW.trod enc P w base (fun _ => true) held fuel t [v] = some x) (hlt : ∀ q ∈ x.2, q.block < w.heap.size) :
    ∃ (A : Option Addr) (n c : Nat) (ss : List Bool), v = .slice A n c ∧ ss.length = n ∧ n ≤ c ∧ c ≤ maxLen ∧ Row w w.heap.size A (ss.map Value.bool) := by
  obtain ⟨A, n, c, l, h1, h2, h3, h4, _, h6⟩ := open_slice_of (fun b : Bool => [Value.bool b]) 1 (fun _ => rfl) (by omega) (fun _ => True) ht hC
    (fun n cs y hy _ => by
      obtain ⟨b, rfl, _⟩ := DataW.trod_bool he hy
      exact ⟨b, rfl, trivial⟩) h hlt
  exact ⟨A, n, c, l, h1, h2, h3, h4, by rw [flat_one] at h6; exact h6⟩
end
end Go.Proofs.YtfgaonkoaolffaaDoor

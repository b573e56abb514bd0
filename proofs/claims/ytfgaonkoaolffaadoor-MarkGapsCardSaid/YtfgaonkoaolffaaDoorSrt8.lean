/-
  Chapter 8: numbers in order, each once, in plain; slices.Sort and slices.Compact of a row of the call's own.
-/
import Derived.Lib.OwnBridge
import Derived.Test.YtfgaonkoaolffaaDoorLay8
import Derived.Test.YtfgaonkoaolffaaDoorOwn
namespace Go.Proofs.YtfgaonkoaolffaaDoor
open Go.RowKit
/-- A number put in, in order, once. -/
def addN (l : List Nat) (x : Nat) : List Nat := if x ∈ l then l else l.takeWhile (fun y => decide (y < x)) ++ x :: l.dropWhile (fun y => decide (y < x))
def srtN (l : List Nat) : List Nat := l.foldl addN []
theorem mem_addN (l : List Nat) (x y : Nat) : y ∈ addN l x ↔ y ∈ l ∨ y = x := by
  unfold addN
  split
  · rename_i h
    constructor
    · exact .inl
    · rintro (h1 | rfl)
      · exact h1
      · exact h
  · have h := List.takeWhile_append_dropWhile (p := fun y => decide (y < x)) (l := l)
    constructor
    · intro hy
      rcases List.mem_append.1 hy with h1 | h1
      · left; rw [← h]; exact List.mem_append_left _ h1
      · rcases List.mem_cons.1 h1 with rfl | h2
        · exact .inr rfl
        · left; rw [← h]; exact List.mem_append_right _ h2
    · rintro (h1 | rfl)
      · rw [← h] at h1
        rcases List.mem_append.1 h1 with h2 | h2
        · exact List.mem_append_left _ h2
        · exact List.mem_append_right _ (List.mem_cons_of_mem _ h2)
      · exact List.mem_append_right _ (List.mem_cons_self ..)
theorem drop_ge {l : List Nat} (h : l.Pairwise (· < ·)) (x y : Nat) (hy : y ∈ l.dropWhile (fun y => decide (y < x))) : x ≤ y := by
  induction l with
  | nil => simp at hy
  | cons a l ih =>
    rw [List.dropWhile_cons] at hy
    rw [List.pairwise_cons] at h
    split at hy
    · exact ih h.2 hy
    · rename_i ha
      have ha' : ¬ a < x := by simpa using ha
      rcases List.mem_cons.1 hy with rfl | h1
      · omega
      · have := h.1 y h1
        omega
theorem take_lt {l : List Nat} (x y : Nat) (hy : y ∈ l.takeWhile (fun y => decide (y < x))) : y < x := by
  induction l with
  | nil => simp at hy
  | cons a l ih =>
    rw [List.takeWhile_cons] at hy
    split at hy
    · rename_i ha
      rcases List.mem_cons.1 hy with rfl | h1
      · simpa using ha
      · exact ih h1
    · cases hy
theorem rise_addN {l : List Nat} (h : l.Pairwise (· < ·)) (x : Nat) : (addN l x).Pairwise (· < ·) := by
  unfold addN
  split
  · exact h
  · rename_i hx
    have he := List.takeWhile_append_dropWhile (p := fun y => decide (y < x)) (l := l)
    have h2 := h
    rw [← he, List.pairwise_append] at h2
    rw [List.pairwise_append, List.pairwise_cons]
    refine ⟨h2.1, ⟨fun y hy => ?_, h2.2.1⟩, fun a ha b hb => ?_⟩
    · have h3 := drop_ge h x y hy
      have h4 : y ∈ l := by rw [← he]; exact List.mem_append_right _ hy
      have h5 : x ≠ y := by rintro rfl; exact hx h4
      omega
    · rcases List.mem_cons.1 hb with rfl | h3
      · exact take_lt _ _ ha
      · exact h2.2.2 a ha b h3
theorem srt_both (l acc : List Nat) (h : acc.Pairwise (· < ·)) : (l.foldl addN acc).Pairwise (· < ·) ∧ ∀ y, y ∈ l.foldl addN acc ↔ y ∈ acc ∨ y ∈ l := by
  induction l generalizing acc with
  | nil => exact ⟨h, fun y => by simp⟩
  | cons a l ih =>
    obtain ⟨h1, h2⟩ := ih (addN acc a) (rise_addN h a)
    refine ⟨h1, fun y => ?_⟩
    rw [List.foldl_cons, h2, mem_addN, List.mem_cons, or_assoc]
theorem srt_rise (l : List Nat) : (srtN l).Pairwise (· < ·) := (srt_both l [] .nil).1
theorem mem_srt (l : List Nat) (y : Nat) : y ∈ srtN l ↔ y ∈ l := by
  have := (srt_both l [] .nil).2 y
  unfold srtN
  simpa using this
theorem rise_uniq {l k : List Int} (hl : l.Pairwise (· < ·)) (hk : k.Pairwise (· < ·)) (h : ∀ x, x ∈ l ↔ x ∈ k) : l = k := by
  induction l generalizing k with
  | nil =>
    cases k with
    | nil => rfl
    | cons b k => exact absurd ((h b).2 (by simp)) (by simp)
  | cons a l ih =>
    cases k with
    | nil => exact absurd ((h a).1 (by simp)) (by simp)
    | cons b k =>
      rw [List.pairwise_cons] at hl hk
      have hab : a = b := by
        have h1 := (h a).1 (by simp)
        have h2 := (h b).2 (by simp)
        rcases List.mem_cons.1 h1 with h1 | h1
        · exact h1
        · rcases List.mem_cons.1 h2 with h2 | h2
          · exact h2.symm
          · have := hk.1 a h1
            have := hl.1 b h2
            omega
      subst hab
      rw [ih hl.2 hk.2 fun x => ?_]
      have h1 := h x
      simp only [List.mem_cons] at h1
      constructor
      · intro hx
        rcases h1.1 (.inr hx) with rfl | h2
        · exact absurd (hl.1 x hx) (Int.lt_irrefl _)
        · exact h2
      · intro hx
        rcases h1.2 (.inr hx) with rfl | h2
        · exact absurd (hk.1 x hx) (Int.lt_irrefl _)
        · exact h2
theorem compact_both (d : Array Int) (hs : ∀ i j, i ≤ j → j < d.size → d[i]! ≤ d[j]!) (m : Nat) (hm : m ≤ d.size) : (Lib.compactUpTo d m).Pairwise (· < ·) ∧ ∀ x, x ∈ Lib.compactUpTo d m ↔ ∃ j, j < m ∧ d[j]! = x := by
  induction m with
  | zero => exact ⟨.nil, fun x => ⟨fun h => (by cases h), fun ⟨j, h, _⟩ => absurd h (Nat.not_lt_zero _)⟩⟩
  | succ m ih =>
    obtain ⟨h1, h2⟩ := ih (by omega)
    rw [Lib.compactUpTo_succ]
    by_cases hk : Lib.keeps d m = true
    · rw [if_pos hk]
      refine ⟨?_, fun x => ?_⟩
      · rw [List.pairwise_append]
        refine ⟨h1, .cons (fun _ h => by cases h) .nil, fun a ha b hb => ?_⟩
        rw [List.mem_singleton] at hb
        subst hb
        obtain ⟨j, hj, rfl⟩ := (h2 a).1 ha
        have h3 := hs j (m - 1) (by omega) (by omega)
        have h4 := hs (m - 1) m (by omega) (by omega)
        have h5 : d[m]! ≠ d[m - 1]! := by
          unfold Lib.keeps at hk
          rcases of_decide_eq_true hk with h0 | h0
          · omega
          · exact h0
        omega
      · rw [List.mem_append, h2, List.mem_singleton]
        constructor
        · rintro (⟨j, hj, e⟩ | rfl)
          · exact ⟨j, by omega, e⟩
          · exact ⟨m, by omega, rfl⟩
        · rintro ⟨j, hj, e⟩
          by_cases hjm : j = m
          · subst hjm; exact .inr e.symm
          · exact .inl ⟨j, by omega, e⟩
    · rw [if_neg hk, List.append_nil]
      refine ⟨h1, fun x => ?_⟩
      rw [h2]
      have h0 : m ≠ 0 ∧ d[m]! = d[m - 1]! := by
        unfold Lib.keeps at hk
        simpa using hk
      constructor
      · rintro ⟨j, hj, e⟩
        exact ⟨j, by omega, e⟩
      · rintro ⟨j, hj, e⟩
        by_cases hjm : j = m
        · subst hjm
          exact ⟨j - 1, by omega, by rw [← h0.2]; exact e⟩
        · exact ⟨j, by omega, e⟩
def upI (l : List Nat) : List Int := l.map fun (k : Nat) => (k : Int)
theorem sort_compact (l : List Nat) : Lib.compact ((upI l).mergeSort fun x y => decide (x ≤ y)) = upI (srtN l) := by
  have hp : ((upI l).mergeSort fun x y => decide (x ≤ y)).Pairwise (fun x y => decide (x ≤ y) = true) := List.pairwise_mergeSort (fun a b c h1 h2 => by simp only [decide_eq_true_eq] at *; omega) (fun a b => by simp only [Bool.or_eq_true, decide_eq_true_eq]; omega) _
  have hmem : ∀ x, x ∈ ((upI l).mergeSort fun x y => decide (x ≤ y)) ↔ x ∈ upI l := fun x => List.mem_mergeSort
  generalize ((upI l).mergeSort fun x y => decide (x ≤ y)) = zs at hp hmem
  have hs : ∀ i j, i ≤ j → j < zs.toArray.size → zs.toArray[i]! ≤ zs.toArray[j]! := fun i j hij hj => by
    have hj' : j < zs.length := by simpa using hj
    have e1 : zs.toArray[i]! = zs[i] := by simp [getElem!_pos, show i < zs.length by omega]
    have e2 : zs.toArray[j]! = zs[j] := by simp [getElem!_pos, hj']
    rw [e1, e2]
    rcases Nat.lt_or_ge i j with h | h
    · have := List.pairwise_iff_getElem.1 hp i j (by omega) hj' h
      exact of_decide_eq_true this
    · have : i = j := by omega
      subst this
      exact Int.le_refl _
  obtain ⟨h1, h2⟩ := compact_both zs.toArray hs zs.length (by simp)
  refine rise_uniq h1 ?_ fun x => ?_
  · unfold upI
    rw [List.pairwise_map]
    exact (srt_rise l).imp (fun h => by omega)
  · unfold Lib.compact
    rw [h2]
    constructor
    · rintro ⟨j, hj, rfl⟩
      have : zs.toArray[j]! = zs[j] := by simp [getElem!_pos, hj]
      rw [this]
      have h3 := (hmem zs[j]).1 (List.getElem_mem _)
      unfold upI at h3 ⊢
      obtain ⟨k, hk, e⟩ := List.mem_map.1 h3
      exact List.mem_map.2 ⟨k, (mem_srt l k).2 hk, e⟩
    · intro hx
      unfold upI at hx hmem
      obtain ⟨k, hk, e⟩ := List.mem_map.1 hx
      have h3 := (hmem x).2 (List.mem_map.2 ⟨k, (mem_srt l k).1 hk, e⟩)
      obtain ⟨j, hj, e2⟩ := List.getElem_of_mem h3
      exact ⟨j, hj, by rw [← e2]; simp [getElem!_pos, hj]⟩
open Go.Sort
theorem below_grow {B : Nat} {w V : World} (h : Below B w V) (hB : B ≤ w.heap.size) (os : Array Obj) : Below B w (grow V os) :=
  ⟨h.os, h.tape, h.output, by have := h.size; simp [grow]; omega, fun k hk => by
    have := h.size
    rw [← h.block k hk]
    simp only [grow]
    rw [Array.getElem?_append_left (by omega)]⟩
theorem own_grow {w : World} {base n c : Nat} {e : TypeId} {A : Option Addr} {xs : List Value} (h : Own w base e 1 A n c xs) (os : Array Obj) : Own (grow w os) base e 1 A n c xs := by
  refine ⟨h.1, ?_⟩
  rcases h.2 with h2 | ⟨g, cap, cur, hv, hb, hg, rest⟩
  · exact .inl h2
  · exact .inr ⟨g, cap, cur, hv, hb, by
      have := (Array.getElem?_eq_some_iff.1 hg).1
      simp only [grow]
      rw [Array.getElem?_append_left this]
      exact hg, rest⟩
/-- slices.Sort of a row of the call's own. -/
theorem sort_any {w : World} {base n c : Nat} {A : Option Addr} {l : List Int} (h : Own w base 3 1 A n c (ints l)) (hB : base ≤ w.heap.size) (hn : n ≤ 65536) :
    Calls Tryd.prog 38 #[.slice A n c] w fun e w' => e = .returned (.tuple #[]) ∧ Own w' base 3 1 A n c (ints (l.mergeSort fun x y => decide (x ≤ y))) ∧ Below base w w' := by
  by_cases h0 : (Value.slice A n c) = .slice none 0 0
  · injection h0 with e1 e2 e3
    subst e1; subst e2; subst e3
    have hl : l = [] := by
      have := h.1
      exact List.eq_nil_of_length_eq_zero (by simpa [ints] using this)
    subst hl
    refine (Any.slices_Sort_int_none Tryd.lays189 none 0 w).mono ?_
    rintro e w' ⟨rfl, rfl⟩
    exact ⟨rfl, by simpa using h, Below.refl _ _⟩
  · obtain ⟨g, cap, hv, hb, hlt, hnc, hcm, hln, hH⟩ := Lib.holds_of_ownsRow h h0
    injection hv with e1 e2 e3
    subst e1; subst e3
    have hS := Tryd.slices_Sort_int g 0 c l w hH hlt (by omega)
    rw [hln] at hS
    refine hS.mono ?_
    rintro e w' ⟨rfl, q, os, rfl⟩
    have ho := Lib.ownsRow_putRow (enc := Value.int .i64) (q := q) (k := n) (ys := l.mergeSort fun x y => decide (x ≤ y)) h (by rw [List.length_mergeSort, hln]) (Nat.le_refl _)
    rw [List.take_of_length_le (by rw [List.length_mergeSort, hln]; exact Nat.le_refl _)] at ho
    exact ⟨rfl, own_grow ho os, below_grow (Lib.below_putRow (Below.refl _ _) hb) hB os⟩
/-- slices.Compact of a row of the call's own. -/
theorem compact_any {w : World} {base n c : Nat} {A : Option Addr} {l : List Int} (h : Own w base 3 1 A n c (ints l)) :
    Calls Tryd.prog 39 #[.slice A n c] w fun e w' => e = .returned (.slice A (Lib.compact l).length c) ∧ Own w' base 3 1 A (Lib.compact l).length c (ints (Lib.compact l)) ∧ Below base w w' := by
  by_cases h0 : (Value.slice A n c) = .slice none 0 0
  · injection h0 with e1 e2 e3
    subst e1; subst e2; subst e3
    have hl : l = [] := by
      have := h.1
      exact List.eq_nil_of_length_eq_zero (by simpa [ints] using this)
    subst hl
    refine (Any.slices_Compact_int_empty Tryd.laysNm220 none 0 w).mono ?_
    rintro e w' ⟨rfl, rfl⟩
    exact ⟨rfl, h, Below.refl _ _⟩
  · obtain ⟨g, cap, hv, hb, hlt, hnc, hcm, hln, hH⟩ := Lib.holds_of_ownsRow h h0
    injection hv with e1 e2 e3
    subst e1; subst e3
    unfold maxLen at hcm
    have hS := Tryd.slices_Compact_int g 0 c l w hH (by omega) (by omega)
    rw [hln] at hS
    have hle := Lib.compact_length_le l
    refine hS.mono ?_
    rintro e w' ⟨rfl, q, rfl⟩
    have ho := Lib.ownsRow_putRow (enc := Value.int .i64) (q := q) (k := (Lib.compact l).length) (ys := Lib.compact l ++ List.replicate (n - (Lib.compact l).length) 0) h (by simp; omega) (by omega)
    rw [List.take_left] at ho
    exact ⟨rfl, ho, Lib.below_putRow (Below.refl _ _) hb⟩
end Go.Proofs.YtfgaonkoaolffaaDoor

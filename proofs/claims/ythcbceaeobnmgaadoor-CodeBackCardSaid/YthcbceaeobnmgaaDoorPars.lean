/-
  Chapter 5, plain: the truths of bytes. No program in sight.
-/
import Derived.Test.YthcbceaeobnmgaaDoorBm6
import Derived.Test.YthcbceaeobnmgaaDoorSch
namespace Go.Proofs.YthcbceaeobnmgaaDoor
open Go.RowKit
theorem getD_out {bs : List Bool} {j : Nat} (h : bs.length ≤ j) : bs.getD j false = false := by simp [h]
def bitOf (l : List Nat) (i : Nat) : Bool := (l.getD (2 + i / 8) 0).testBit (i % 8)
def parseN (l : List Nat) : Nat := 256 * l.getD 0 0 + l.getD 1 0
def sizeB (l : List Nat) : Bool := decide (2 ≤ l.length ∧ parseN l ≤ 4096 ∧ l.length = 2 + (parseN l + 7) / 8)
def spareB (l : List Nat) : Bool := (List.range (8 * ((parseN l + 7) / 8))).all fun i => !(decide (parseN l ≤ i) && bitOf l i)
def parseB (l : List Nat) : Bool := sizeB l && spareB l
def parseL (l : List Nat) : List Bool := (List.range (parseN l)).map (bitOf l)
theorem parseL_len (l : List Nat) : (parseL l).length = parseN l := by simp [parseL]
theorem spare_of {l : List Nat} (h : ∀ i, i < 8 * ((parseN l + 7) / 8) → parseN l ≤ i → bitOf l i = false) : spareB l = true := by
  unfold spareB
  rw [List.all_eq_true]
  intro i hi
  rw [List.mem_range] at hi
  by_cases h1 : parseN l ≤ i
  · rw [h i hi h1]; simp
  · simp [h1]
theorem spare_not {l : List Nat} {i : Nat} (h1 : i < 8 * ((parseN l + 7) / 8)) (h2 : parseN l ≤ i) (h3 : bitOf l i = true) : spareB l = false := by
  cases h : spareB l with
  | false => rfl
  | true =>
    unfold spareB at h
    rw [List.all_eq_true] at h
    have := h i (List.mem_range.2 h1)
    simp [h2, h3] at this
theorem spare_at {l : List Nat} (h : spareB l = true) {i : Nat} (h1 : i < 8 * ((parseN l + 7) / 8)) (h2 : parseN l ≤ i) : bitOf l i = false := by
  cases hb : bitOf l i with
  | false => rfl
  | true => rw [spare_not h1 h2 hb] at h; cases h
/-- The first p bits, false behind. -/
def uptoP (l : List Nat) (p : Nat) : List Bool := (List.range (parseN l)).map fun j => decide (j < p) && bitOf l j
theorem uptoP_len (l : List Nat) (p : Nat) : (uptoP l p).length = parseN l := by simp [uptoP]
theorem uptoP_zero (l : List Nat) : uptoP l 0 = List.replicate (parseN l) false := by
  apply List.ext_getElem
  · simp [uptoP]
  · intro i h1 h2; simp [uptoP]
theorem uptoP_all (l : List Nat) (p : Nat) (h : parseN l ≤ p) : uptoP l p = parseL l := by
  apply List.ext_getElem
  · simp [uptoP, parseL]
  · intro i h1 h2
    simp only [uptoP_len] at h1
    have : i < p := by omega
    simp [uptoP, parseL, this]
theorem uptoP_same (l : List Nat) (p : Nat) (h : bitOf l p = false) : uptoP l (p + 1) = uptoP l p := by
  apply List.ext_getElem
  · simp [uptoP]
  · intro i h1 h2
    simp only [uptoP, List.getElem_map, List.getElem_range]
    by_cases hi : i = p
    · subst hi; simp [h]
    · have : (i < p + 1) ↔ (i < p) := by omega
      simp [this]
theorem uptoP_set (l : List Nat) (p : Nat) (hp : p < parseN l) (h : bitOf l p = true) : uptoP l (p + 1) = (uptoP l p).set p true := by
  apply List.ext_getElem
  · simp [uptoP]
  · intro i h1 h2
    rw [List.getElem_set]
    simp only [uptoP, List.getElem_map, List.getElem_range]
    by_cases hi : i = p
    · subst hi; simp [h]
    · have h3 : (i < p + 1) ↔ (i < p) := by omega
      have h4 : ¬ p = i := fun e => hi e.symm
      simp [h3, h4]
theorem hasB_uptoP (l : List Nat) (p : Nat) : hasB (uptoP l p) p = false := by
  unfold hasB uptoP
  simp
  by_cases h : p < parseN l
  · simp [h]
  · have : parseN l ≤ p := by omega
    simp [this]
theorem nat_ext256 {a b : Nat} (ha : a < 256) (hb : b < 256) (h : ∀ c, c < 8 → a.testBit c = b.testBit c) : a = b := by
  apply Nat.eq_of_testBit_eq
  intro c
  by_cases hc : c < 8
  · exact h c hc
  · have hp : 256 ≤ 2 ^ c := by
      have : 2 ^ 8 ≤ 2 ^ c := Nat.pow_le_pow_right (by omega) (by omega)
      simpa using this
    rw [Nat.testBit_lt_two_pow (by omega), Nat.testBit_lt_two_pow (by omega)]
theorem parseL_getD (l : List Nat) (i : Nat) : (parseL l).getD i false = (decide (i < parseN l) && bitOf l i) := by
  by_cases h : i < parseN l
  · simp [parseL, h]
  · have : parseN l ≤ i := by omega
    simp [parseL, h]
/-- What is read has just these bytes, if no bit stands behind. -/
theorem bytes_parse {l : List Nat} (hl : ∀ x ∈ l, x < 256) (hs : sizeB l = true) : bytesOf (parseL l) = l ↔ spareB l = true := by
  unfold sizeB at hs
  rw [decide_eq_true_eq] at hs
  obtain ⟨h2, hn, hlen⟩ := hs
  have hb : ∀ j, l.getD j 0 < 256 := by
    intro j
    by_cases hj : j < l.length
    · rw [List.getD_eq_getElem?_getD, List.getElem?_eq_getElem hj]; exact hl _ (List.getElem_mem hj)
    · have : l.length ≤ j := by omega
      simp [this]
  have h0 := hb 0
  have h1 := hb 1
  have hlenb : (bytesOf (parseL l)).length = l.length := by unfold bytesOf; simp [parseL_len]; omega
  have head : ∀ j, j < 2 → (bytesOf (parseL l)).getD j 0 = l.getD j 0 := by
    intro j hj
    unfold bytesOf
    rw [parseL_len]
    match j, hj with
    | 0, _ => simp [parseN] at *; omega
    | 1, _ => simp [parseN] at *; omega
  have tail : ∀ q, q < (parseN l + 7) / 8 → (bytesOf (parseL l)).getD (2 + q) 0 = byteAt (parseL l) q := by
    intro q hq
    unfold bytesOf
    rw [parseL_len]
    rw [List.getD_eq_getElem?_getD, List.getElem?_append_right (by simp)]
    simp [hq]
  constructor
  · intro he
    refine spare_of fun i hi1 hi2 => ?_
    have ht := tail (i / 8) (by omega)
    rw [he] at ht
    have hbit := byteAt_bit (parseL l) (i / 8) (i % 8) (by omega)
    rw [← ht, parseL_getD] at hbit
    have e : 8 * (i / 8) + i % 8 = i := by omega
    rw [e] at hbit
    have : ¬ i < parseN l := by omega
    unfold bitOf
    rw [hbit]
    simp [this]
  · intro hsp
    apply List.ext_getElem?
    intro j
    by_cases hj : j < l.length
    · have key : (bytesOf (parseL l)).getD j 0 = l.getD j 0 := by
        by_cases hj2 : j < 2
        · exact head j hj2
        · have ht := tail (j - 2) (by omega)
          have e : 2 + (j - 2) = j := by omega
          rw [e] at ht
          rw [ht]
          refine nat_ext256 (byteAt_lt _ _) (hb j) fun c hc => ?_
          rw [byteAt_bit _ _ _ hc, parseL_getD]
          have hbo : bitOf l (8 * (j - 2) + c) = (l.getD j 0).testBit c := by
            unfold bitOf
            have e1 : 2 + (8 * (j - 2) + c) / 8 = j := by omega
            have e2 : (8 * (j - 2) + c) % 8 = c := by omega
            rw [e1, e2]
          by_cases hi : 8 * (j - 2) + c < parseN l
          · rw [hbo]; simp [hi]
          · have := spare_at hsp (i := 8 * (j - 2) + c) (by omega) (by omega)
            rw [← hbo, this]
            simp
      rw [List.getD_eq_getElem?_getD, List.getD_eq_getElem?_getD, List.getElem?_eq_getElem hj, List.getElem?_eq_getElem (by omega)] at key
      rw [List.getElem?_eq_getElem hj, List.getElem?_eq_getElem (by omega)]
      simpa using key
    · rw [List.getElem?_eq_none (by omega), List.getElem?_eq_none (by omega)]
theorem bytesOf_len (bs : List Bool) : (bytesOf bs).length = 2 + (bs.length + 7) / 8 := by unfold bytesOf; simp; omega
theorem bytesOf_ltP (bs : List Bool) (hn : bs.length ≤ 4096) : ∀ x ∈ bytesOf bs, x < 256 := by
  intro x hx
  unfold bytesOf at hx
  rw [List.mem_append] at hx
  rcases hx with hx | hx
  · simp at hx; omega
  · obtain ⟨q, _, rfl⟩ := List.mem_map.1 hx
    exact byteAt_lt _ _
/-- The bytes of truths are read as these. -/
theorem parse_bytes (bs : List Bool) (hn : bs.length ≤ 4096) : parseB (bytesOf bs) = true ∧ parseL (bytesOf bs) = bs := by
  have hN : parseN (bytesOf bs) = bs.length := by unfold parseN bytesOf; simp; omega
  have htail : ∀ q, q < (bs.length + 7) / 8 → (bytesOf bs).getD (2 + q) 0 = byteAt bs q := by
    intro q hq
    unfold bytesOf
    rw [List.getD_eq_getElem?_getD, List.getElem?_append_right (by simp)]
    simp [hq]
  have hbit : ∀ i, i < 8 * ((bs.length + 7) / 8) → bitOf (bytesOf bs) i = bs.getD i false := by
    intro i hi
    unfold bitOf
    rw [htail (i / 8) (by omega), byteAt_bit _ _ _ (by omega)]
    have e : 8 * (i / 8) + i % 8 = i := by omega
    rw [e]
  constructor
  · unfold parseB sizeB
    rw [hN, bytesOf_len]
    have : spareB (bytesOf bs) = true := by
      refine spare_of fun i h1 h2 => ?_
      rw [hN] at h1 h2
      rw [hbit i h1]
      exact getD_out h2
    rw [this]
    simp
    omega
  · apply List.ext_getElem
    · rw [parseL_len, hN]
    · intro i h1 h2
      simp only [parseL, List.getElem_map, List.getElem_range]
      rw [hbit i (by omega)]
      simp [h2]
end Go.Proofs.YthcbceaeobnmgaaDoor

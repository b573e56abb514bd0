/-
  Chapter 5, plain: the places of a word's bits, one after the other by x &= x - 1. No function of the program in sight.
-/
import Derived.Test.YtecigfjnpikbjaaDoorBm9
namespace Go.Proofs.YtecigfjnpikbjaaDoor
open Go.RowKit
/-- The places of a word's bits. -/
def bitsOf (x : Nat) : List Nat := (List.range 64).filter fun b => x.testBit b
theorem filter_first {p q : Nat → Bool} {N c : Nat} (hc : c < N) (hp : p c = true) (hlo : ∀ b, b < c → p b = false) (hq : ∀ b, q b = (p b && decide (b ≠ c))) : (List.range N).filter p = c :: (List.range N).filter q := by
  obtain ⟨r, rfl⟩ : ∃ r, N = c + (1 + r) := ⟨N - c - 1, by omega⟩
  rw [List.range_add, List.filter_append, List.filter_append, List.range_add, List.map_append, List.filter_append, List.filter_append]
  have h1 : (List.range c).filter p = [] := by
    rw [List.filter_eq_nil_iff]
    intro b hb
    rw [hlo b (List.mem_range.1 hb)]
    decide
  have h2 : (List.range c).filter q = [] := by
    rw [List.filter_eq_nil_iff]
    intro b hb
    rw [hq, hlo b (List.mem_range.1 hb), Bool.false_and]
    decide
  have h3 : (List.map (fun x => c + x) (List.range 1)).filter p = [c] := by simp [hp]
  have h4 : (List.map (fun x => c + x) (List.range 1)).filter q = [] := by simp [hq]
  rw [h1, h2, h3, h4, List.nil_append, List.nil_append, List.nil_append, List.singleton_append]
  congr 1
  apply List.filter_congr
  intro b hb
  simp only [List.mem_map, List.mem_range] at hb
  obtain ⟨y, ⟨z, _, rfl⟩, rfl⟩ := hb
  rw [hq]
  have : decide (c + (1 + z) ≠ c) = true := decide_eq_true (by omega)
  rw [this, Bool.and_true]
theorem low_bit (x : Nat) (hx : x < 18446744073709551616) (h0 : x ≠ 0) : Lib.ctz 64 x < 64 ∧ bitsOf x = Lib.ctz 64 x :: bitsOf (x &&& (x - 1)) := by
  obtain ⟨m, hm, hf⟩ := Lib.ctzFrom_spec 64 x (Nat.pos_of_ne_zero h0) hx
  have ec : Lib.ctz 64 x = Lib.ctzFrom 64 x := by unfold Lib.ctz; rw [if_neg h0]
  rw [ec]
  generalize Lib.ctzFrom 64 x = c at *
  refine ⟨hf, ?_⟩
  have hp2 : 0 < 2 ^ c := Nat.two_pow_pos c
  have hm' : x = 2 ^ c * (2 * m + 1) := by rw [hm]
  have hx1 : x - 1 = 2 ^ c * (2 * m) + (2 ^ c - 1) := by rw [hm', Nat.mul_add, Nat.mul_one]; omega
  have hbx : ∀ b, x.testBit b = (decide (c ≤ b) && (2 * m + 1).testBit (b - c)) := fun b => by rw [hm', Nat.testBit_two_pow_mul]
  have hb1 : ∀ b, (x - 1).testBit b = if b < c then (2 ^ c - 1).testBit b else (2 * m).testBit (b - c) := fun b => by rw [hx1, Nat.testBit_two_pow_mul_add _ (by omega)]
  unfold bitsOf
  refine filter_first hf ?_ ?_ ?_
  · rw [hbx]; simp
  · intro b hb
    rw [hbx]
    have : decide (c ≤ b) = false := by simp; omega
    rw [this, Bool.false_and]
  · intro b
    rw [Nat.testBit_and, hb1]
    by_cases hlt : b < c
    · rw [hbx]
      have : decide (c ≤ b) = false := by simp; omega
      rw [this, Bool.false_and, Bool.false_and, Bool.false_and]
    · rw [if_neg hlt]
      by_cases he : b = c
      · subst he
        have : (2 * m).testBit (b - b) = false := by rw [Nat.sub_self, Nat.testBit_zero]; simp
        rw [this]
        simp
      · have hd : decide (b ≠ c) = true := by simpa using he
        rw [hd, Bool.and_true, hbx]
        have hcb : decide (c ≤ b) = true := by simp; omega
        obtain ⟨e, he2⟩ : ∃ e, b - c = e + 1 := ⟨b - c - 1, by omega⟩
        rw [hcb, he2, Bool.true_and, Nat.testBit_succ, Nat.testBit_succ]
        have e1 : (2 * m + 1) / 2 = m := by omega
        have e2 : 2 * m / 2 = m := by omega
        rw [e1, e2, Bool.and_self]
theorem and_pred_lt (x : Nat) : x ≠ 0 → x &&& (x - 1) < x := fun h => by
  have : x &&& (x - 1) ≤ x - 1 := Nat.and_le_right
  omega
/-- All places of the words' bits. -/
def posUpto (ws : List Nat) (k : Nat) : List Int := (List.range k).flatMap fun j => (bitsOf (ws.getD j 0)).map fun b : Nat => (j : Int) * 64 + (b : Int)
theorem posUpto_succ (ws : List Nat) (k : Nat) : posUpto ws (k + 1) = posUpto ws k ++ (bitsOf (ws.getD k 0)).map fun b : Nat => (k : Int) * 64 + (b : Int) := by
  unfold posUpto
  rw [List.range_succ, List.flatMap_append]
  simp
theorem posUpto_pre (ws : List Nat) {k m : Nat} (h : k ≤ m) : posUpto ws k <+: posUpto ws m := by
  obtain ⟨r, rfl⟩ : ∃ r, m = k + r := ⟨m - k, by omega⟩
  induction r with
  | zero => exact List.prefix_refl _
  | succ r ih => exact (ih (by omega)).trans (by rw [← Nat.add_assoc, posUpto_succ]; exact List.prefix_append _ _)
/-- The places that are marked, as the reference has them. -/
def allB (bs : List Bool) (n : Nat) : List Int := ((List.range n).filter fun j => bs.getD j false).map fun j : Nat => (j : Int)
theorem bits_all {bs : List Bool} {x k : Nat} (hx : ∀ b, b < 64 → x.testBit b = bs.getD (64 * k + b) false) : allB bs (64 * k + 64) = allB bs (64 * k) ++ (bitsOf x).map fun b : Nat => (k : Int) * 64 + (b : Int) := by
  unfold allB bitsOf
  rw [List.range_add, List.filter_append, List.map_append, List.filter_map, List.map_map]
  congr 1
  have : (List.range 64).filter ((fun j => bs.getD j false) ∘ fun b => 64 * k + b) = (List.range 64).filter fun b => x.testBit b := by
    apply List.filter_congr
    intro b hb
    rw [hx b (List.mem_range.1 hb)]
    rfl
  rw [this]
  apply List.map_congr_left
  intro b _
  show ((64 * k + b : Nat) : Int) = _
  omega
theorem allB_more (bs : List Bool) (n : Nat) (h : bs.length ≤ n) : ∀ m, allB bs (n + m) = allB bs n := by
  intro m
  unfold allB
  rw [List.range_add, List.filter_append]
  have : (List.map (fun x => n + x) (List.range m)).filter (fun j => bs.getD j false) = [] := by
    rw [List.filter_eq_nil_iff]
    intro b hb
    simp only [List.mem_map] at hb
    obtain ⟨y, _, rfl⟩ := hb
    rw [getD_out (by omega)]
    decide
  rw [this, List.append_nil]
theorem pos_all {ws : List Nat} {bs : List Bool} (h : WordsOk ws bs) : posUpto ws ws.length = allB bs bs.length := by
  have key : ∀ k, k ≤ ws.length → posUpto ws k = allB bs (64 * k) := by
    intro k
    induction k with
    | zero => intro _; rfl
    | succ k ih =>
      intro hk
      have hk2 : k < ws.length := by omega
      rw [posUpto_succ, ih (by omega)]
      have e : ws.getD k 0 = ws[k] := by simp [hk2]
      rw [e, ← bits_all (h.2 k hk2).2, Nat.mul_succ]
  rw [key _ (Nat.le_refl _)]
  have e : 64 * ws.length = bs.length + (64 * ws.length - bs.length) := by have := h.1; omega
  rw [e, allB_more bs _ (Nat.le_refl _)]
end Go.Proofs.YtecigfjnpikbjaaDoor

/-
  Chapter 5, plain: the bytes of truths. No program in sight.
-/
import Derived.Test.YthcbceaeobnmgaaDoorBm4
import Derived.Test.YthcbceaeobnmgaaDoorStr
namespace Go.Proofs.YthcbceaeobnmgaaDoor
open Go.RowKit
/-- The first k bits of byte q. -/
def part (bs : List Bool) (q : Nat) : Nat → Nat
  | 0 => 0
  | k + 1 => part bs q k + if bs.getD (8 * q + k) false = true then 2 ^ k else 0
def byteAt (bs : List Bool) (q : Nat) : Nat := part bs q 8
theorem part_lt (bs : List Bool) (q : Nat) : ∀ k, part bs q k < 2 ^ k
  | 0 => by simp [part]
  | k + 1 => by
    have := part_lt bs q k
    unfold part
    have e : 2 ^ (k + 1) = 2 ^ k + 2 ^ k := by rw [Nat.pow_succ]; omega
    rw [e]
    split <;> omega
theorem part_bit (bs : List Bool) (q : Nat) : ∀ k c, (part bs q k).testBit c = (decide (c < k) && bs.getD (8 * q + c) false)
  | 0, c => by simp [part]
  | k + 1, c => by
    have ih := part_bit bs q k c
    have hlt := part_lt bs q k
    unfold part
    split
    · rename_i hb
      have e : part bs q k + 2 ^ k = 2 ^ k * 1 + part bs q k := by omega
      rw [e, Nat.two_pow_add_eq_or_of_lt hlt, Nat.mul_one, Nat.testBit_or, Nat.testBit_two_pow, ih]
      by_cases h : k = c
      · subst h; simp; simpa using hb
      · by_cases h2 : c < k
        · have : c < k + 1 := by omega
          simp [h, h2, this]
        · have : ¬ c < k + 1 := by omega
          simp [h, h2, this]
    · rename_i hb
      rw [Nat.add_zero, ih]
      by_cases h : k = c
      · subst h; simp; simpa using hb
      · by_cases h2 : c < k
        · have : c < k + 1 := by omega
          simp [h2, this]
        · have : ¬ c < k + 1 := by omega
          simp [h2, this]
theorem byteAt_lt (bs : List Bool) (q : Nat) : byteAt bs q < 256 := part_lt bs q 8
theorem byteAt_bit (bs : List Bool) (q c : Nat) (h : c < 8) : (byteAt bs q).testBit c = bs.getD (8 * q + c) false := by
  unfold byteAt
  rw [part_bit]
  simp [h]
/-- A byte of a word. -/
theorem word_byte {bs : List Bool} {x j s q : Nat} (hx : ∀ b, b < 64 → x.testBit b = bs.getD (64 * j + b) false) (hs : s + 8 ≤ 64) (hq : 64 * j + s = 8 * q) : x / 2 ^ s % 256 = byteAt bs q := by
  apply Nat.eq_of_testBit_eq
  intro c
  have e : (256 : Nat) = 2 ^ 8 := by decide
  rw [e, Nat.testBit_mod_two_pow, Nat.testBit_div_two_pow]
  by_cases h : c < 8
  · rw [byteAt_bit bs q c h, hx (c + s) (by omega)]
    have : 64 * j + (c + s) = 8 * q + c := by omega
    rw [this]
    simp [h]
  · have h1 : (byteAt bs q).testBit c = false := Nat.testBit_lt_two_pow (Nat.lt_of_lt_of_le (byteAt_lt bs q) (by rw [e]; exact Nat.pow_le_pow_right (by omega) (by omega)))
    rw [h1]
    simp [h]
/-- The bytes of some truths. -/
def bytesOf (bs : List Bool) : List Nat := [bs.length / 256, bs.length % 256] ++ (List.range ((bs.length + 7) / 8)).map (byteAt bs)

end Go.Proofs.YthcbceaeobnmgaaDoor

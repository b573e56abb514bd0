/-
  Chapter 5, plain: how many bits of a word are set, as the library reckons it. No program in sight.
-/
import Derived.Test.YtecigfjnpikbjaaDoorBm7
namespace Go.Proofs.YtecigfjnpikbjaaDoor
open Go.RowKit
/-- How many of the first n bits are set. -/
def popB (x : Nat) : Nat → Nat
  | 0 => 0
  | n + 1 => popB x n + (x.testBit n).toNat
/-- A number by its bytes. -/
def num8 : List Nat → Nat
  | [] => 0
  | b :: l => b + 256 * num8 l
theorem and_digit (a m x y : Nat) (ha : a < 256) (hm : m < 256) : (a + 256 * x) &&& (m + 256 * y) = (a &&& m) + 256 * (x &&& y) := by
  have e : (256 : Nat) = 2 ^ 8 := by decide
  have h1 : a + 256 * x = 2 ^ 8 * x + a := by omega
  have h2 : m + 256 * y = 2 ^ 8 * y + m := by omega
  have ham : a &&& m < 2 ^ 8 := Nat.lt_of_le_of_lt Nat.and_le_left ha
  have h3 : (a &&& m) + 256 * (x &&& y) = 2 ^ 8 * (x &&& y) + (a &&& m) := by omega
  rw [h1, h2, h3]
  apply Nat.eq_of_testBit_eq
  intro i
  rw [Nat.testBit_and, Nat.testBit_two_pow_mul_add _ ha, Nat.testBit_two_pow_mul_add _ hm, Nat.testBit_two_pow_mul_add _ ham]
  by_cases h : i < 8
  · simp [h, Nat.testBit_and]
  · simp [h, Nat.testBit_and]
def all256 (l : List Nat) : Prop := ∀ b ∈ l, b < 256
theorem and_map (m : Nat) (hm : m < 256) : ∀ l : List Nat, all256 l → num8 l &&& num8 (List.replicate l.length m) = num8 (l.map fun b => b &&& m)
  | [], _ => by simp [num8]
  | b :: l, h => by
    have hb : b < 256 := h b (by simp)
    have ih := and_map m hm l (fun c hc => h c (by simp [hc]))
    simp only [List.length_cons, List.replicate_succ, List.map_cons, num8]
    rw [and_digit b m _ _ hb hm, ih]
theorem shr1_map : ∀ l : List Nat, all256 l → (num8 l / 2) &&& num8 (List.replicate l.length 85) = num8 (l.map fun b => (b / 2) &&& 85)
  | [], _ => by simp [num8]
  | b :: l, h => by
    have hb : b < 256 := h b (by simp)
    have ih := shr1_map l (fun c hc => h c (by simp [hc]))
    simp only [List.length_cons, List.replicate_succ, List.map_cons, num8]
    have e : (b + 256 * num8 l) / 2 = (b / 2 + 128 * (num8 l % 2)) + 256 * (num8 l / 2) := by omega
    rw [e, and_digit _ 85 _ _ (by omega) (by omega), ih]
    have hc : num8 l % 2 < 2 := by omega
    generalize num8 l % 2 = c at *
    have key : ∀ b < 256, ∀ c < 2, (b / 2 + 128 * c) &&& 85 = (b / 2) &&& 85 := by decide +kernel
    rw [key b hb c hc]
theorem shr2_map : ∀ l : List Nat, all256 l → (num8 l / 4) &&& num8 (List.replicate l.length 51) = num8 (l.map fun b => (b / 4) &&& 51)
  | [], _ => by simp [num8]
  | b :: l, h => by
    have hb : b < 256 := h b (by simp)
    have ih := shr2_map l (fun c hc => h c (by simp [hc]))
    simp only [List.length_cons, List.replicate_succ, List.map_cons, num8]
    have e : (b + 256 * num8 l) / 4 = (b / 4 + 64 * (num8 l % 4)) + 256 * (num8 l / 4) := by omega
    rw [e, and_digit _ 51 _ _ (by omega) (by omega), ih]
    have hc : num8 l % 4 < 4 := by omega
    generalize num8 l % 4 = c at *
    have key : ∀ b < 256, ∀ c < 4, (b / 4 + 64 * c) &&& 51 = (b / 4) &&& 51 := by decide +kernel
    rw [key b hb c hc]
theorem add_map (f g : Nat → Nat) : ∀ l : List Nat, num8 (l.map f) + num8 (l.map g) = num8 (l.map fun b => f b + g b)
  | [] => by simp [num8]
  | b :: l => by
    have := add_map f g l
    simp only [List.map_cons, num8]
    omega
/-- Both halves of a byte are at most 4. -/
def nib (b : Nat) : Prop := b % 16 ≤ 4 ∧ b / 16 ≤ 4
theorem shr4_map : ∀ l : List Nat, (∀ b ∈ l, nib b) → (num8 l / 16 + num8 l) &&& num8 (List.replicate l.length 15) = num8 (l.map fun b => b / 16 + b % 16)
  | [], _ => by simp [num8]
  | b :: l, h => by
    have hb : nib b := h b (by simp)
    unfold nib at hb
    have ih := shr4_map l (fun c hc => h c (by simp [hc]))
    simp only [List.length_cons, List.replicate_succ, List.map_cons, num8]
    have hc : num8 l % 16 ≤ 4 := by
      cases l with
      | nil => simp [num8]
      | cons c l =>
        have := (h c (by simp)).1
        simp only [num8]
        omega
    have e : (b + 256 * num8 l) / 16 + (b + 256 * num8 l) = (b / 16 + 16 * (num8 l % 16) + b) + 256 * (num8 l / 16 + num8 l) := by omega
    rw [e, and_digit _ 15 _ _ (by omega) (by omega), ih]
    have e2 : (15 : Nat) = 2 ^ 4 - 1 := by decide
    rw [e2, Nat.and_two_pow_sub_one_eq_mod]
    omega
def s1 (b : Nat) : Nat := ((b / 2) &&& 85) + (b &&& 85)
def s2 (b : Nat) : Nat := ((b / 4) &&& 51) + (b &&& 51)
def s3 (b : Nat) : Nat := b / 16 + b % 16
theorem s1_lt : ∀ b < 256, s1 b < 256 := by decide +kernel
theorem s2_nib : ∀ b < 256, s2 (s1 b) % 16 ≤ 4 ∧ s2 (s1 b) / 16 ≤ 4 := by decide +kernel
theorem s3_pop : ∀ b < 256, s3 (s2 (s1 b)) = popB b 8 := by decide +kernel
theorem pop8_le (b : Nat) : popB b 8 ≤ 8 := by
  simp only [popB]
  have h := fun k => Bool.toNat_le (b.testBit k)
  have h0 := h 0; have h1 := h 1; have h2 := h 2; have h3 := h 3; have h4 := h 4; have h5 := h 5; have h6 := h 6; have h7 := h 7
  omega
/-- The library's three first steps. -/
theorem swar (l : List Nat) (h : all256 l) :
    let y := ((num8 l / 2) &&& num8 (List.replicate l.length 85)) + (num8 l &&& num8 (List.replicate l.length 85))
    let z := ((y / 4) &&& num8 (List.replicate l.length 51)) + (y &&& num8 (List.replicate l.length 51))
    (z / 16 + z) &&& num8 (List.replicate l.length 15) = num8 (l.map fun b => popB b 8) := by
  intro y z
  have hy : y = num8 (l.map s1) := by
    show _ + _ = _
    rw [shr1_map l h, and_map 85 (by omega) l h, add_map]
    rfl
  have h1 : all256 (l.map s1) := by
    intro b hb
    obtain ⟨a, ha, rfl⟩ := List.mem_map.1 hb
    exact s1_lt a (h a ha)
  have hz : z = num8 ((l.map s1).map s2) := by
    show (y / 4 &&& _) + (y &&& _) = _
    rw [hy]
    have e1 := shr2_map (l.map s1) h1
    have e2 := and_map 51 (by omega) (l.map s1) h1
    rw [List.length_map] at e1 e2
    rw [e1, e2, add_map]
    rfl
  rw [hz]
  have e3 := shr4_map ((l.map s1).map s2) (by
    intro b hb
    rw [List.map_map] at hb
    obtain ⟨a, ha, rfl⟩ := List.mem_map.1 hb
    exact s2_nib a (h a ha))
  rw [List.length_map, List.length_map] at e3
  rw [e3, List.map_map, List.map_map]
  congr 1
  apply List.map_congr_left
  intro b hb
  exact s3_pop b (h b hb)
/-- A number's bytes. -/
def bytes8 (x : Nat) : Nat → List Nat
  | 0 => []
  | n + 1 => x % 256 :: bytes8 (x / 256) n
theorem bytes8_len : ∀ (n x : Nat), (bytes8 x n).length = n
  | 0, _ => rfl
  | n + 1, x => by simp [bytes8, bytes8_len n]
theorem bytes8_all : ∀ (n x : Nat), all256 (bytes8 x n)
  | 0, _ => by simp [bytes8, all256]
  | n + 1, x => by
    intro b hb
    simp only [bytes8, List.mem_cons] at hb
    rcases hb with rfl | hb
    · omega
    · exact bytes8_all n _ b hb
theorem num8_bytes : ∀ (n x : Nat), x < 256 ^ n → num8 (bytes8 x n) = x
  | 0, x, h => by simp [bytes8, num8] at *; omega
  | n + 1, x, h => by
    have := num8_bytes n (x / 256) (by rw [Nat.pow_succ] at h; omega)
    simp only [bytes8, num8]
    omega
theorem popB_add (x n : Nat) : ∀ m, popB x (n + m) = popB x n + popB (x / 2 ^ n) m
  | 0 => rfl
  | m + 1 => by
    have := popB_add x n m
    show popB x (n + m) + _ = popB x n + (popB (x / 2 ^ n) m + _)
    rw [this, Nat.testBit_div_two_pow, Nat.add_comm m n]
    show _ + (x.testBit (n + m)).toNat = _
    omega
theorem popB_mod (x : Nat) (N : Nat) : ∀ m, m ≤ N → popB (x % 2 ^ N) m = popB x m
  | 0, _ => rfl
  | m + 1, h => by
    have := popB_mod x N m (by omega)
    show popB _ m + _ = popB _ m + _
    rw [this, Nat.testBit_mod_two_pow]
    have : m < N := by omega
    simp [this]
def sumL : List Nat → Nat
  | [] => 0
  | a :: l => a + sumL l
theorem pop_bytes : ∀ (n x : Nat), sumL ((bytes8 x n).map fun b => popB b 8) = popB x (8 * n)
  | 0, _ => rfl
  | n + 1, x => by
    have ih := pop_bytes n (x / 256)
    simp only [bytes8, List.map_cons, sumL]
    have e : 8 * (n + 1) = 8 + 8 * n := by omega
    rw [ih, e, popB_add]
    have e2 : (256 : Nat) = 2 ^ 8 := by decide
    rw [e2, popB_mod x 8 8 (by omega)]
/-- All of the library's steps. -/
def onesN (x : Nat) : Nat :=
  let y := ((x / 2) &&& 6148914691236517205) + (x &&& 6148914691236517205)
  let z := ((y / 4) &&& 3689348814741910323) + (y &&& 3689348814741910323)
  let a := (z / 16 + z) &&& 1085102592571150095
  let b := a + a / 256
  let c := b + b / 65536
  let d := c + c / 4294967296
  d % 128
theorem dv (K lo R X : Nat) (h : X = lo + K * R) (hl : lo < K) : X / K = R := by
  subst h
  rw [Nat.add_mul_div_left _ _ (by omega), Nat.div_eq_of_lt hl]
  omega
theorem last8 (c0 c1 c2 c3 c4 c5 c6 c7 : Nat) (h0 : c0 ≤ 8) (h1 : c1 ≤ 8) (h2 : c2 ≤ 8) (h3 : c3 ≤ 8) (h4 : c4 ≤ 8) (h5 : c5 ≤ 8) (h6 : c6 ≤ 8) (h7 : c7 ≤ 8) (a b c d : Nat)
    (ha : a = num8 [c0, c1, c2, c3, c4, c5, c6, c7]) (hb : b = a + a / 256) (hc : c = b + b / 65536) (hd : d = c + c / 4294967296) :
    d % 128 = sumL [c0, c1, c2, c3, c4, c5, c6, c7] ∧ a < 1152921504606846976 ∧ b < 1152921504606846976 * 2 ∧ c < 1152921504606846976 * 3 ∧ d < 1152921504606846976 * 4 := by
  have ea : a = c0 + 256 * (c1 + 256 * (c2 + 256 * (c3 + 256 * (c4 + 256 * (c5 + 256 * (c6 + 256 * c7)))))) := ha
  have hal : a < 1152921504606846976 := by clear hb hc hd ha; omega
  have e1 : a / 256 = c1 + 256 * (c2 + 256 * (c3 + 256 * (c4 + 256 * (c5 + 256 * (c6 + 256 * c7))))) := dv 256 c0 _ a ea (by omega)
  have eb : b = (c0 + c1) + 256 * ((c1 + c2) + 256 * ((c2 + c3) + 256 * ((c3 + c4) + 256 * ((c4 + c5) + 256 * ((c5 + c6) + 256 * ((c6 + c7) + 256 * c7)))))) := by
    rw [hb, e1, ea]; clear hb hc hd ha ea hal e1; omega
  have e2 : b / 65536 = (c2 + c3) + 256 * ((c3 + c4) + 256 * ((c4 + c5) + 256 * ((c5 + c6) + 256 * ((c6 + c7) + 256 * c7)))) :=
    dv 65536 ((c0 + c1) + 256 * (c1 + c2)) _ b (by rw [eb]; clear hb hc hd ha ea hal e1 eb; omega) (by clear hb hc hd ha ea e1 eb; omega)
  have ec : c = (c0 + c1 + c2 + c3) + 256 * ((c1 + c2 + c3 + c4) + 256 * ((c2 + c3 + c4 + c5) + 256 * ((c3 + c4 + c5 + c6) + 256 * ((c4 + c5 + c6 + c7) + 256 * ((c5 + c6 + c7) + 256 * ((c6 + c7) + 256 * c7)))))) := by
    rw [hc, e2, eb]; clear hb hc hd ha ea hal e1 eb e2; omega
  have e3 : c / 4294967296 = (c4 + c5 + c6 + c7) + 256 * ((c5 + c6 + c7) + 256 * ((c6 + c7) + 256 * c7)) :=
    dv 4294967296 ((c0 + c1 + c2 + c3) + 256 * ((c1 + c2 + c3 + c4) + 256 * ((c2 + c3 + c4 + c5) + 256 * (c3 + c4 + c5 + c6)))) _ c (by rw [ec]; clear hb hc hd ha ea hal e1 eb e2 ec; omega) (by clear hb hc hd ha ea e1 eb e2 ec; omega)
  have ed : d = (c0 + c1 + c2 + c3 + c4 + c5 + c6 + c7) + 128 * (2 * ((c1 + c2 + c3 + c4) + (c5 + c6 + c7) + 256 * ((c2 + c3 + c4 + c5) + (c6 + c7) + 256 * ((c3 + c4 + c5 + c6) + c7 + 256 * ((c4 + c5 + c6 + c7) + 256 * ((c5 + c6 + c7) + 256 * ((c6 + c7) + 256 * c7))))))) := by
    rw [hd, e3, ec]; clear hb hc hd ha ea hal e1 eb e2 ec e3; omega
  refine ⟨?_, hal, ?_, ?_, ?_⟩
  · rw [ed, Nat.add_mul_mod_self_left]
    simp only [sumL]
    clear ed hb hc hd ha ea e1 eb e2 ec e3
    omega
  · have := Nat.div_le_self a 256; omega
  · have := Nat.div_le_self a 256
    have := Nat.div_le_self b 65536
    have : b / 65536 ≤ 1152921504606846976 := by clear e2 e3 ec eb ed hd hc ea ha e1; omega
    clear e2 e3 ec eb ed hd ea ha e1; omega
  · have := Nat.div_le_self a 256
    have : b / 65536 ≤ 1152921504606846976 := by clear e2 e3 ec eb ed hd hc ea ha e1; omega
    have : c / 4294967296 ≤ 1152921504606846976 := by clear e2 e3 ec eb ed hd ea ha e1; omega
    clear e2 e3 ec eb ed ea ha e1; omega
theorem onesN_eq (x : Nat) (hx : x < 18446744073709551616) : onesN x = popB x 64 := by
  have h := swar (bytes8 x 8) (bytes8_all 8 x)
  rw [bytes8_len, num8_bytes 8 x hx] at h
  have m85 : num8 (List.replicate 8 85) = 6148914691236517205 := by decide
  have m51 : num8 (List.replicate 8 51) = 3689348814741910323 := by decide
  have m15 : num8 (List.replicate 8 15) = 1085102592571150095 := by decide
  rw [m85, m51, m15] at h
  have hp := pop_bytes 8 x
  unfold onesN
  simp only at h ⊢
  rw [h]
  rw [← hp]
  simp only [bytes8, List.map_cons, List.map_nil]
  exact (last8 _ _ _ _ _ _ _ _ (pop8_le _) (pop8_le _) (pop8_le _) (pop8_le _) (pop8_le _) (pop8_le _) (pop8_le _) (pop8_le _) _ _ _ _ rfl rfl rfl rfl).1
end Go.Proofs.YtecigfjnpikbjaaDoor

/-
  Chapter 7, plain: the program of any bytes, or the place at which they are none. No program in sight.
-/
import Derived.Test.YthcbceaeobnmgaaDoorPln7
import Derived.Test.YthcbceaeobnmgaaDoorPars
namespace Go.Proofs.YthcbceaeobnmgaaDoor
open Go.RowKit
/-- What is read, and the place behind it; or the place that is wrong. -/
inductive Rd (α : Type) where
  | ok (x : α) (at_ : Nat)
  | bad (at_ : Nat)
def needI (op : Nat) : Nat := if longB (op : Int) = true then 12 else 4
def valN (l : List Nat) : Nat := l.foldl (fun n b => n * 256 + b) 0
def numI (l : List Nat) : Int := IntKind.i64.wrap (valN l : Nat)
def insR (l : List Nat) (p : Nat) : Ins := ⟨(l.getD p 0 : Nat), (l.getD (p + 1) 0 : Nat), (l.getD (p + 2) 0 : Nat), (l.getD (p + 3) 0 : Nat), if longB (l.getD p 0 : Nat) = true then numI ((l.drop (p + 4)).take 8) else 0⟩
def rdI (l : List Nat) (p : Nat) : Rd Ins :=
  if l.length ≤ p then .bad l.length
  else if isOpB (l.getD p 0 : Nat) = false then .bad p
  else if l.length < p + needI (l.getD p 0) then .bad l.length
  else .ok (insR l p) (p + needI (l.getD p 0))
def rdCode (l : List Nat) (p : Nat) : Nat → Rd (List Ins)
  | 0 => .ok [] p
  | k + 1 => match rdCode l p k with
    | .bad q => .bad q
    | .ok xs q => match rdI l q with
      | .bad r => .bad r
      | .ok i r => .ok (xs ++ [i]) r
def sizeS (many : Nat) : Nat := 2 + (many + 7) / 8
def okS (l : List Nat) (q many : Nat) : Bool := parseB ((l.drop q).take (sizeS many)) && decide (parseN ((l.drop q).take (sizeS many)) = many)
def rdF (l : List Nat) (p : Nat) : Rd Fn :=
  if l.length ≤ p then .bad l.length
  else if 64 < l.getD p 0 then .bad p
  else match rdCode l (p + 1) (l.getD p 0) with
    | .bad q => .bad q
    | .ok is q =>
      if l.length < q + sizeS (l.getD p 0) then .bad l.length
      else if okS l q (l.getD p 0) = true then .ok ⟨is, parseL ((l.drop q).take (sizeS (l.getD p 0)))⟩ (q + sizeS (l.getD p 0))
      else .bad q
def rdFs (l : List Nat) (p : Nat) : Nat → Rd (List Fn)
  | 0 => .ok [] p
  | k + 1 => match rdFs l p k with
    | .bad q => .bad q
    | .ok fs q => match rdF l q with
      | .bad r => .bad r
      | .ok f r => .ok (fs ++ [f]) r
def rdP (l : List Nat) : Rd (List Fn) :=
  if l.length = 0 then .bad 0
  else if 16 < l.getD 0 0 then .bad 0
  else match rdFs l 1 (l.getD 0 0) with
    | .bad q => .bad q
    | .ok fs q => if q < l.length then .bad q else .ok fs 0
/-- Places stay within the bytes. -/
def RdIn {α : Type} (n : Nat) (r : Rd α) : Prop := match r with
  | .ok _ q => q ≤ n
  | .bad q => q ≤ n
theorem rdI_in (l : List Nat) (p : Nat) (hp : p ≤ l.length) : RdIn l.length (rdI l p) := by
  unfold rdI
  repeat' split
  all_goals (unfold RdIn; simp only; omega)
theorem rdCode_in (l : List Nat) (p : Nat) (hp : p ≤ l.length) : ∀ k, RdIn l.length (rdCode l p k)
  | 0 => hp
  | k + 1 => by
    have ih := rdCode_in l p hp k
    unfold rdCode
    cases h : rdCode l p k with
    | bad q => rw [h] at ih; exact ih
    | ok xs q =>
      rw [h] at ih
      have h2 := rdI_in l q ih
      simp only
      cases h3 : rdI l q with
      | bad r => rw [h3] at h2; exact h2
      | ok i r => rw [h3] at h2; exact h2
theorem rdF_in (l : List Nat) (p : Nat) (hp : p ≤ l.length) : RdIn l.length (rdF l p) := by
  unfold rdF
  split
  · exact Nat.le_refl _
  split
  · exact hp
  have ih := rdCode_in l (p + 1) (by omega) (l.getD p 0)
  cases h : rdCode l (p + 1) (l.getD p 0) with
  | bad q => rw [h] at ih; exact ih
  | ok xs q =>
    rw [h] at ih
    simp only
    split
    · exact Nat.le_refl _
    split
    · show _ ≤ _; omega
    · exact ih
theorem rdFs_in (l : List Nat) (p : Nat) (hp : p ≤ l.length) : ∀ k, RdIn l.length (rdFs l p k)
  | 0 => hp
  | k + 1 => by
    have ih := rdFs_in l p hp k
    unfold rdFs
    cases h : rdFs l p k with
    | bad q => rw [h] at ih; exact ih
    | ok xs q =>
      rw [h] at ih
      have h2 := rdF_in l q ih
      simp only
      cases h3 : rdF l q with
      | bad r => rw [h3] at h2; exact h2
      | ok i r => rw [h3] at h2; exact h2
theorem rdCode_len (l : List Nat) (p : Nat) : ∀ k xs q, rdCode l p k = .ok xs q → xs.length = k
  | 0, xs, q, h => by
    unfold rdCode at h
    injection h with h1 h2
    subst h1; rfl
  | k + 1, xs, q, h => by
    unfold rdCode at h
    cases h1 : rdCode l p k with
    | bad q => rw [h1] at h; cases h
    | ok ys r =>
      rw [h1] at h
      simp only at h
      have := rdCode_len l p k ys r h1
      cases h2 : rdI l r with
      | bad q => rw [h2] at h; cases h
      | ok i r' =>
        rw [h2] at h
        simp only at h
        injection h with h3 h4
        subst h3
        simp [this]
theorem rdFs_len (l : List Nat) (p : Nat) : ∀ k xs q, rdFs l p k = .ok xs q → xs.length = k
  | 0, xs, q, h => by
    unfold rdFs at h
    injection h with h1 h2
    subst h1; rfl
  | k + 1, xs, q, h => by
    unfold rdFs at h
    cases h1 : rdFs l p k with
    | bad q => rw [h1] at h; cases h
    | ok ys r =>
      rw [h1] at h
      simp only at h
      have := rdFs_len l p k ys r h1
      cases h2 : rdF l r with
      | bad q => rw [h2] at h; cases h
      | ok i r' =>
        rw [h2] at h
        simp only at h
        injection h with h3 h4
        subst h3
        simp [this]
theorem rdCode_bad (l : List Nat) (p : Nat) : ∀ k m q, rdCode l p k = .bad q → k ≤ m → rdCode l p m = .bad q
  | k, 0, q, h, hk => by
    obtain rfl : k = 0 := by omega
    exact h
  | k, m + 1, q, h, hk => by
    by_cases e : k = m + 1
    · rw [← e]; exact h
    · have := rdCode_bad l p k m q h (by omega)
      unfold rdCode
      rw [this]
theorem rdFs_bad (l : List Nat) (p : Nat) : ∀ k m q, rdFs l p k = .bad q → k ≤ m → rdFs l p m = .bad q
  | k, 0, q, h, hk => by
    obtain rfl : k = 0 := by omega
    exact h
  | k, m + 1, q, h, hk => by
    by_cases e : k = m + 1
    · rw [← e]; exact h
    · have := rdFs_bad l p k m q h (by omega)
      unfold rdFs
      rw [this]
end Go.Proofs.YthcbceaeobnmgaaDoor

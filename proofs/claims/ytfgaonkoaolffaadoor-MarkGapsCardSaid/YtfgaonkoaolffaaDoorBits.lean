/-
  Plain lemmas on bits of an int64: no program in sight. Conditions: each number is within int64's range where a hypothesis says so.
-/
import Derived.WalkKit
import Derived.Laws.BitsAllLaws
import Derived.Laws.BitsLemmas
namespace Go.Proofs.YtfgaonkoaolffaaDoor
theorem and_split (x y : BitVec 64) : (x &&& ~~~y) + (x &&& y) = x := by
  rw [BitVec.add_eq_or_of_and_eq_zero]
  · ext i hi; simp; cases x[i] <;> cases y[i] <;> rfl
  · ext i hi; simp; cases x[i] <;> cases y[i] <;> simp
theorem and8_cases (x : BitVec 64) : x &&& 8#64 = 0#64 ∨ x &&& 8#64 = 8#64 := by
  have h : (8#64) = BitVec.twoPow 64 3 := by decide
  rw [h, BitVec.and_twoPow]
  split
  · exact .inr rfl
  · exact .inl rfl
theorem wrap_toNat (x : BitVec 64) : IntKind.i64.wrap (x.toNat : Int) = x.toInt := by
  rw [IntKind.wrap_i64, BitVec.toInt_eq_toNat_cond]
  have := x.isLt
  split <;> omega
theorem ofInt_toInt (n : Int) (h1 : -9223372036854775808 ≤ n) (h2 : n ≤ 9223372036854775807) : (BitVec.ofInt 64 n).toInt = n := by
  rw [BitVec.toInt_ofInt]
  simp [Int.bmod_def]; omega
theorem andNot8 (n : Int) (h1 : -9223372036854775808 ≤ n) (h2 : n ≤ 9223372036854775807) : (bits .andNot .i64 n 8 = n ∧ bits .and .i64 n 8 = 0) ∨ ((bits .andNot .i64 n 8 = n - 8 ∨ 6 < bits .andNot .i64 n 8) ∧ bits .and .i64 n 8 = 8) := by
  have e1 : bits .andNot .i64 n 8 = (BitVec.ofInt 64 n &&& ~~~8#64).toInt := wrap_toNat _
  have e2 : bits .and .i64 n 8 = (BitVec.ofInt 64 n &&& 8#64).toInt := wrap_toNat _
  have hs := and_split (BitVec.ofInt 64 n) 8#64
  have hn := ofInt_toInt n h1 h2
  rw [e1, e2]
  rcases and8_cases (BitVec.ofInt 64 n) with h | h
  · left
    rw [h] at hs ⊢
    rw [BitVec.add_zero] at hs
    rw [hs]
    exact ⟨hn, rfl⟩
  · right
    rw [h] at hs ⊢
    refine ⟨?_, rfl⟩
    generalize BitVec.ofInt 64 n &&& ~~~8#64 = y at *
    have hr := BitVec.toInt_lt (x := y)
    have hr' := BitVec.le_toInt (x := y)
    have ha := BitVec.toInt_add y 8#64
    rw [hs, hn] at ha
    have e8 : (8#64).toInt = 8 := rfl
    rw [e8] at ha
    simp [Int.bmod_def] at ha
    simp at hr hr'
    omega
theorem low16 (n : Int) (h : 0 ≤ n) (h' : n < 16) : n = 0 ∨ n = 1 ∨ n = 2 ∨ n = 3 ∨ n = 4 ∨ n = 5 ∨ n = 6 ∨ n = 7 ∨ n = 8 ∨ n = 9 ∨ n = 10 ∨ n = 11 ∨ n = 12 ∨ n = 13 ∨ n = 14 ∨ n = 15 := by omega
/-- The range of an int. -/
def I64 (n : Int) : Prop := -9223372036854775808 ≤ n ∧ n ≤ 9223372036854775807
end Go.Proofs.YtfgaonkoaolffaaDoor

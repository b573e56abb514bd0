/-
  Chapters 9 and 11, plain: what is true of every instruction of a program that may run. No program in sight.
-/
import Derived.Test.YtoacnphgkgklcaaDoorVm10
namespace Go.Proofs.YtoacnphgkgklcaaDoor
open Go.RowKit
theorem opRegs_le (op : Int) : opRegs op ≤ 3 := by
  by_cases h : 0 ≤ op ∧ op < 24
  · obtain ⟨k, rfl⟩ := Int.eq_ofNat_of_zero_le h.1
    have hk : k < 24 := by omega
    have : ∀ k : Nat, k < 24 → opRegs (k : Int) ≤ 3 := by decide +kernel
    exact this k hk
  · have : opRow op = noRow := opRow_out op (by omega)
    unfold opRegs
    rw [this]
    decide
/-- What an instruction of a program that may run is like. -/
structure InsRun (i : Ins) (places funcs : Nat) : Prop where
  op0 : 0 ≤ i.op
  op24 : i.op < 24
  a0 : 0 ≤ i.a
  a8 : i.a < 8
  b0 : 0 ≤ i.b
  b8 : i.b < 8
  c0 : 0 ≤ i.c
  c8 : i.c < 8
  toPlace : opTarget i.op = 1 → 0 ≤ i.n ∧ i.n < places
  toFunc : opTarget i.op = 2 → 0 ≤ i.n ∧ i.n < funcs
theorem reg_in {r x : Int} {k : Nat} (h1 : regB r k x = false) (h2 : spB r k x = false) : 0 ≤ x ∧ x < 8 := by
  unfold regB at h1
  unfold spB at h2
  by_cases h : (k : Int) < r
  · rw [decide_eq_true h, Bool.true_and, Bool.or_eq_false_iff] at h1
    simp at h1
    omega
  · rw [decide_eq_true (show r ≤ (k : Int) by omega), Bool.true_and] at h2
    have : x = 0 := by simpa using h2
    omega
theorem run_of_check {i : Ins} {places funcs : Nat} (h : checkF i.op i.a i.b i.c i.n places funcs = 0) : InsRun i places funcs := by
  unfold checkF at h
  split at h
  · exact absurd h (by decide)
  rename_i ho
  split at h
  · exact absurd h (by decide)
  rename_i hr
  split at h
  · exact absurd h (by decide)
  rename_i hs
  have ho' : isOpB i.op = true := by simpa using ho
  unfold isOpB at ho'
  rw [decide_eq_true_eq] at ho'
  unfold regsBad at hr
  unfold spareBad at hs
  rw [Bool.not_eq_true, Bool.or_eq_false_iff, Bool.or_eq_false_iff] at hr hs
  have ha := reg_in hr.1.1 hs.1.1
  have hb := reg_in hr.1.2 hs.1.2
  have hc := reg_in hr.2 hs.2
  refine ⟨ho'.1, ho'.2, ha.1, ha.2, hb.1, hb.2, hc.1, hc.2, fun ht => ?_, fun ht => ?_⟩
  · rw [if_neg (by rw [ht]; decide), if_neg (by rw [ht]; decide : ¬ opTarget i.op = 2)] at h
    by_cases hn : i.n < 0 ∨ (places : Int) ≤ i.n
    · rw [if_pos hn] at h; exact absurd h (by decide)
    · omega
  · rw [if_neg (by rw [ht]; decide), if_pos ht] at h
    by_cases hn : i.n < 0 ∨ (funcs : Int) ≤ i.n
    · rw [if_pos hn] at h; exact absurd h (by decide)
    · omega
theorem find_none_at {p : Nat → Bool} {n : Nat} (h : (List.range n).find? p = none) (i : Nat) (hi : i < n) : p i = false := by
  rw [List.find?_eq_none] at h
  have := h i (List.mem_range.2 hi)
  simpa using this
theorem run_fn {fs : List Fn} (h : runB fs = true) : 0 < fs.length ∧ fs.length ≤ 16 ∧ ∀ k (hk : k < fs.length), (fnF fs[k] fs.length).2 = 0 := by
  unfold runB at h
  rw [decide_eq_true_eq] at h
  unfold checkP at h
  split at h
  · exact absurd h (by decide)
  rename_i h0
  split at h
  · exact absurd h (by decide)
  rename_i h16
  refine ⟨by omega, by omega, fun k hk => ?_⟩
  split at h
  · rename_i i hi
    have : (fnAt fs i).2 ≠ 0 := by
      have := List.find?_some hi
      simpa using this
    exact absurd h this
  · rename_i hn
    have := find_none_at hn k hk
    simp only [bne_eq_false_iff_eq] at this
    unfold fnAt at this
    simpa [hk] using this
theorem fn_ok {f : Fn} {funcs : Nat} (h : (fnF f funcs).2 = 0) : 0 < f.code.length ∧ f.code.length ≤ 64 ∧ (∀ k (hk : k < f.code.length), InsRun f.code[k] f.code.length funcs) ∧ ∀ k (hk : k < f.code.length), opEnds f.code[k].op = false → k + 1 < f.code.length := by
  unfold fnF at h
  split at h
  · exact absurd h (by decide)
  rename_i h0
  split at h
  · exact absurd h (by decide)
  rename_i h64
  split at h
  · exact absurd h (by decide)
  split at h
  · rename_i k hk
    have : placeAt f funcs k ≠ 0 := by
      have := List.find?_some hk
      simpa using this
    exact absurd h this
  · rename_i hn
    refine ⟨by omega, by omega, fun k hk => ?_, fun k hk he => ?_⟩
    · have hp := find_none_at hn k hk
      simp only [bne_eq_false_iff_eq] at hp
      unfold placeAt placeF at hp
      rw [code_getD hk] at hp
      split at hp
      · rename_i hc
        exact absurd hp hc
      · rename_i hc
        exact run_of_check (by simpa using hc)
    · refine Classical.byContradiction fun hlt => ?_
      have ek : k = f.code.length - 1 := by omega
      split at h
      · rename_i hl
        rw [← ek, code_getD hk, he] at hl
        cases hl
      · exact absurd (show (11 : Int) = 0 from h) (by decide)
theorem run_ins {fs : List Fn} (h : runB fs = true) {k m : Nat} (hk : k < fs.length) (hm : m < fs[k].code.length) : InsRun fs[k].code[m] fs[k].code.length fs.length := (fn_ok ((run_fn h).2.2 k hk)).2.2.1 m hm
end Go.Proofs.YtoacnphgkgklcaaDoor

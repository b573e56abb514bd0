/-
  Chapter 9, plain: what Mend does to Check, and to itself. No program in sight.
-/
import Derived.Test.YtlkmpafendggiaaDoorMend9
namespace Go.Proofs.YtlkmpafendggiaaDoor
open Go.RowKit
theorem mendSafe_len (f : Fn) : (mendSafe f).length = f.code.length := by simp [mendSafe]
theorem safeB_nat (ss : List Bool) (k : Nat) : safeB ss (k : Int) = ss.getD k false := by simp [safeB]
theorem mendSafe_at (f : Fn) (k : Nat) (h : k < f.code.length) : safeB (mendSafe f) (k : Int) = mendAt f k := by
  rw [safeB_nat]; simp [mendSafe, h]
theorem mendP_length (fs : List Fn) : (mendP fs).length = fs.length := by simp [mendP]
theorem mendP_getD (fs : List Fn) (i : Nat) (h : i < fs.length) : (mendP fs).getD i noFn = mendF fs[i] := by simp [mendP, h]
theorem checkF_ne10 (op a b c n places funcs : Int) : checkF op a b c n places funcs ≠ 10 := by
  unfold checkF
  repeat (first | omega | split)
theorem place10 {f : Fn} {funcs : Int} {k : Nat} (hk : k < f.code.length) (h : placeAt (mendF f) funcs k = 10) : k + 1 = f.code.length := by
  by_cases hl : k + 1 < f.code.length
  · exfalso
    unfold placeAt placeF at h
    by_cases hc : checkF ((mendF f).code.getD k noIns).op ((mendF f).code.getD k noIns).a ((mendF f).code.getD k noIns).b ((mendF f).code.getD k noIns).c ((mendF f).code.getD k noIns).n (mendF f).code.length funcs ≠ 0
    · rw [if_pos hc] at h
      exact checkF_ne10 _ _ _ _ _ _ _ h
    · rw [if_neg hc] at h
      by_cases hw : opWaits (f.code.getD k noIns).op = true
      · have e1 : safeB (mendSafe f) (k : Int) = true := by
          rw [mendSafe_at f k hk]
          simp only [mendAt, waitsAt, hw, Bool.true_or, Bool.or_true]
        have e2 : safeB (mendSafe f) ((k : Int) + 1) = true := by
          have := mendSafe_at f (k + 1) hl
          rw [show ((k + 1 : Nat) : Int) = (k : Int) + 1 by omega] at this
          rw [this]
          simp only [mendAt, waitsAt, Nat.add_sub_cancel, hw, Nat.zero_lt_succ, decide_true, Bool.true_and, Bool.or_true]
        have e3 : (opWaits ((mendF f).code.getD k noIns).op && !(safeB (mendF f).safe (k : Int) && safeB (mendF f).safe ((k : Int) + 1))) = false := by
          show (_ && !(safeB (mendSafe f) _ && safeB (mendSafe f) _)) = false
          rw [e1, e2]; simp
        rw [e3] at h
        simp at h
      · have e3 : (opWaits ((mendF f).code.getD k noIns).op && !(safeB (mendF f).safe (k : Int) && safeB (mendF f).safe ((k : Int) + 1))) = false := by
          show (opWaits (f.code.getD k noIns).op && _) = false
          rw [Bool.not_eq_true] at hw
          rw [hw, Bool.false_and]
        rw [e3] at h
        simp at h
  · omega
theorem badPlace_some {f : Fn} {funcs : Int} {k : Nat} (h : badPlace f funcs = some k) : k < f.code.length := by
  have := List.mem_of_find?_eq_some h
  simpa using this
theorem fnF_mend {f : Fn} {funcs : Int} {pc z : Int} (h : fnF (mendF f) funcs = (pc, z)) : (z = 9 → 0 ≤ pc) ∧ (z = 10 → pc = (f.code.length : Int) - 1) := by
  unfold fnF at h
  have hl : (mendF f).code.length = f.code.length := rfl
  have hs : (mendF f).safe.length = f.code.length := mendSafe_len f
  rw [hl, hs] at h
  by_cases h0 : f.code.length = 0
  · rw [if_pos h0] at h; injection h with h1 h2; omega
  rw [if_neg h0] at h
  by_cases h64 : 64 < f.code.length
  · rw [if_pos h64] at h; injection h with h1 h2; omega
  rw [if_neg h64, if_neg (by omega)] at h
  cases hb : badPlace (mendF f) funcs with
  | none =>
    rw [hb] at h
    simp only at h
    split at h
    · injection h with h1 h2; omega
    · injection h with h1 h2; omega
  | some k =>
    rw [hb] at h
    simp only at h
    injection h with h1 h2
    have hk := badPlace_some hb
    refine ⟨fun _ => by omega, fun hz => ?_⟩
    have := place10 (f := f) (funcs := funcs) (k := k) hk (by rw [h2, hz])
    omega
theorem badFn_some {fs : List Fn} {k : Nat} (h : badFn fs = some k) : k < fs.length := by
  have := List.mem_of_find?_eq_some h
  simpa using this
/-- What is wrong with a mended program. -/
theorem check_mend {fs : List Fn} {i pc z : Int} (h : checkP (mendP fs) = (i, pc, z)) : (z = 9 → 0 ≤ pc) ∧ (z = 10 → ∃ (k : Nat) (hk : k < fs.length), i = k ∧ pc = (fs[k].code.length : Int) - 1) := by
  unfold checkP at h
  rw [mendP_length] at h
  by_cases h0 : fs.length = 0
  · rw [if_pos h0] at h; simp only [Prod.mk.injEq] at h; omega
  rw [if_neg h0] at h
  by_cases h16 : 16 < fs.length
  · rw [if_pos h16] at h; simp only [Prod.mk.injEq] at h; omega
  rw [if_neg h16] at h
  cases hb : badFn (mendP fs) with
  | none => rw [hb] at h; simp only [Prod.mk.injEq] at h; omega
  | some k =>
    rw [hb] at h
    simp only [Prod.mk.injEq] at h
    obtain ⟨h1, h2, h3⟩ := h
    have hk : k < fs.length := by have := badFn_some hb; rwa [mendP_length] at this
    have e : fnAt (mendP fs) k = fnF (mendF fs[k]) (mendP fs).length := by unfold fnAt; rw [mendP_getD fs k hk]
    have := fnF_mend (f := fs[k]) (funcs := (mendP fs).length) (pc := pc) (z := z) (by rw [← e, ← h2, ← h3])
    exact ⟨this.1, fun hz => ⟨k, hk, h1.symm, this.2 hz⟩⟩
theorem mend_mend (fs : List Fn) : mendP (mendP fs) = mendP fs := by
  unfold mendP
  rw [List.map_map]
  apply List.map_congr_left
  intro f _
  show mendF (mendF f) = mendF f
  unfold mendF
  congr 1
  show (List.range f.code.length).map _ = (List.range f.code.length).map _
  apply List.map_congr_left
  intro k hk
  have hk : k < f.code.length := by simpa using hk
  show (safeB (mendSafe f) (k : Int) || waitsAt f k) = mendAt f k
  rw [mendSafe_at f k hk]
  simp [mendAt]
theorem mend_same {f : Fn} {funcs : Int} (h : (fnF f funcs).2 = 0) : mendF f = f := by
  unfold fnF at h
  by_cases h0 : f.code.length = 0
  · rw [if_pos h0] at h; simp at h
  rw [if_neg h0] at h
  by_cases h64 : 64 < f.code.length
  · rw [if_pos h64] at h; simp at h
  rw [if_neg h64] at h
  by_cases hs : f.code.length = f.safe.length
  · rw [if_neg (by omega)] at h
    cases hb : badPlace f funcs with
    | some k =>
      rw [hb] at h
      simp only at h
      have := List.find?_some hb
      simp [h] at this
    | none =>
      have hp : ∀ k, k < f.code.length → placeAt f funcs k = 0 := by
        intro k hk
        unfold badPlace at hb
        rw [List.find?_eq_none] at hb
        simpa using hb k (by simpa using hk)
      have hw : ∀ k, k < f.code.length → opWaits (f.code.getD k noIns).op = true → safeB f.safe (k : Int) = true ∧ safeB f.safe ((k : Int) + 1) = true := by
        intro k hk hw
        have := hp k hk
        unfold placeAt placeF at this
        by_cases hc : checkF (f.code.getD k noIns).op (f.code.getD k noIns).a (f.code.getD k noIns).b (f.code.getD k noIns).c (f.code.getD k noIns).n f.code.length funcs ≠ 0
        · rw [if_pos hc] at this; exact absurd this hc
        · rw [if_neg hc, hw] at this
          by_cases hq : (safeB f.safe (k : Int) && safeB f.safe ((k : Int) + 1)) = true
          · simpa using hq
          · rw [Bool.not_eq_true] at hq
            rw [hq] at this
            simp at this
      show (⟨f.code, mendSafe f⟩ : Fn) = f
      have e : mendSafe f = f.safe := by
        apply List.ext_getElem
        · rw [mendSafe_len]; exact hs
        · intro k h1 h2
          rw [mendSafe_len] at h1
          have e1 : (mendSafe f)[k] = mendAt f k := by simp [mendSafe]
          have e2 : f.safe[k] = safeB f.safe (k : Int) := by rw [safeB_nat]; simp [h2]
          rw [e1, e2]
          unfold mendAt
          by_cases hwk : waitsAt f k = true
          · have : safeB f.safe (k : Int) = true := by
              unfold waitsAt at hwk
              rw [Bool.or_eq_true] at hwk
              rcases hwk with hwk | hwk
              · exact (hw k h1 hwk).1
              · rw [Bool.and_eq_true, decide_eq_true_eq] at hwk
                have := (hw (k - 1) (by omega) hwk.2).2
                rwa [show ((k - 1 : Nat) : Int) + 1 = (k : Int) by omega] at this
            rw [this, hwk]; rfl
          · rw [Bool.not_eq_true] at hwk
            rw [hwk, Bool.or_false]
      rw [e]
  · rw [if_pos (by omega)] at h; simp at h
/-- A program that may run stays as it is. -/
theorem check_same {fs : List Fn} {i pc : Int} (h : checkP fs = (i, pc, 0)) : mendP fs = fs := by
  unfold checkP at h
  by_cases h0 : fs.length = 0
  · rw [if_pos h0] at h; simp at h
  rw [if_neg h0] at h
  by_cases h16 : 16 < fs.length
  · rw [if_pos h16] at h; simp at h
  rw [if_neg h16] at h
  have hz : ∀ k, k < fs.length → (fnAt fs k).2 = 0 := by
    intro k hk
    cases hb : badFn fs with
    | none =>
      unfold badFn at hb
      rw [List.find?_eq_none] at hb
      simpa using hb k (by simpa using hk)
    | some j =>
      rw [hb] at h
      simp only [Prod.mk.injEq] at h
      have := List.find?_some hb
      simp [h.2.2] at this
  unfold mendP
  apply List.ext_getElem
  · simp
  · intro k h1 h2
    rw [List.getElem_map]
    have := hz k h2
    unfold fnAt at this
    rw [show fs.getD k noFn = fs[k] by simp [h2]] at this
    exact mend_same this
end Go.Proofs.YtlkmpafendggiaaDoor

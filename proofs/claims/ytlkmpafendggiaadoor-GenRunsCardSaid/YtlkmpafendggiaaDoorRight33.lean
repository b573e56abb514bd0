/-
  Chapter 33, plain: programs of instructions that are right, mended, may run.
-/
import Derived.Test.YtlkmpafendggiaaDoorRandom33
import Derived.Test.YtlkmpafendggiaaDoorPlain9
namespace Go.Proofs.YtlkmpafendggiaaDoor
open Go.RowKit
theorem fn_right {f : Fn} {funcs : Int} {pre : List Ins} {l : Ins} (hf : f.code = pre ++ [l]) (h64 : f.code.length ≤ 64) (hc : ∀ i ∈ f.code, checkF i.op i.a i.b i.c i.n f.code.length funcs = 0) (hw : opWaits l.op = false) (he : opEnds l.op = true) : fnF (mendF f) funcs = (-1, 0) := by
  have hlen : f.code.length = pre.length + 1 := by rw [hf]; simp
  have hlast : f.code.getD pre.length noIns = l := by rw [hf]; simp
  have hz : ∀ k, k < f.code.length → placeAt (mendF f) funcs k = 0 := by
    intro k hk
    have hmem : f.code.getD k noIns ∈ f.code := by
      rw [List.getD_eq_getElem?_getD, List.getElem?_eq_getElem hk]; exact List.getElem_mem _
    have h0 := hc _ hmem
    by_cases h10 : placeAt (mendF f) funcs k = 10
    · exfalso
      have hk1 := place10 (f := f) (funcs := funcs) hk h10
      have hkp : k = pre.length := by omega
      subst hkp
      unfold placeAt placeF at h10
      have e1 : (mendF f).code.getD pre.length noIns = l := hlast
      rw [e1] at h10
      rw [hlast] at h0
      have e2 : ¬ checkF l.op l.a l.b l.c l.n (mendF f).code.length funcs ≠ 0 := by
        intro h; exact h h0
      rw [if_neg e2, hw] at h10
      simp at h10
    · unfold placeAt placeF at h10 ⊢
      have e2 : ¬ checkF ((mendF f).code.getD k noIns).op ((mendF f).code.getD k noIns).a ((mendF f).code.getD k noIns).b ((mendF f).code.getD k noIns).c ((mendF f).code.getD k noIns).n (mendF f).code.length funcs ≠ 0 := by
        intro h; exact h h0
      rw [if_neg e2] at h10 ⊢
      split
      · rename_i h; rw [if_pos h] at h10; exact absurd rfl h10
      · rfl
  have := fnF_none (f := mendF f) (funcs := funcs) (show f.code.length ≠ 0 by omega) (show ¬ 64 < f.code.length by omega) (show f.code.length = (mendSafe f).length by rw [mendSafe_len]) hz
  rw [this]
  have e3 : (mendF f).code.getD ((mendF f).code.length - 1) noIns = l := by
    show f.code.getD (f.code.length - 1) noIns = l
    rw [hlen]; exact hlast
  rw [e3, he]
  rfl
/-- A function that is right: its instructions are, and its last one ends and does not wait. -/
def RightFn (f : Fn) (funcs : Nat) : Prop := ∃ pre l, f.code = pre ++ [l] ∧ f.code.length ≤ 64 ∧ (∀ i ∈ f.code, checkF i.op i.a i.b i.c i.n f.code.length funcs = 0) ∧ opWaits l.op = false ∧ opEnds l.op = true
theorem prog_right {gs : List Fn} (h0 : gs.length ≠ 0) (h16 : gs.length ≤ 16) (h : ∀ f ∈ gs, RightFn f gs.length) : checkP (mendP gs) = (-1, -1, 0) := by
  refine checkP_none (by rw [mendP_length]; exact h0) (by rw [mendP_length]; omega) ?_
  intro i hi
  rw [mendP_length] at hi
  unfold fnAt
  rw [mendP_getD gs i hi, mendP_length]
  obtain ⟨pre, l, h1, h2, h3, h4, h5⟩ := h gs[i] (List.getElem_mem _)
  rw [fn_right h1 h2 h3 h4 h5]
theorem random_right {gs : List Fn} {F Z : Nat} (hl : gs.length = F) (hF1 : 1 ≤ F) (hF2 : F ≤ 16) (hZ2 : Z ≤ 64) (h : ∀ f ∈ gs, GoodFn f Z F) : checkP (mendP gs) = (-1, -1, 0) := by
  refine prog_right (by omega) (by omega) fun f hf => ?_
  obtain ⟨hlen, pre, hp, hg⟩ := h f hf
  refine ⟨pre, ins1 9 0, hp, by omega, ?_, by decide +kernel, by decide +kernel⟩
  intro i hi
  rw [hlen, hl]
  rw [hp, List.mem_append] at hi
  rcases hi with hi | hi
  · exact (hg i hi).1
  · rw [List.mem_singleton] at hi
    subst hi
    rfl
theorem rounds_right (k : Nat) (h2 : k ≤ 61) : checkP (mendP (roundsP k)) = (-1, -1, 0) := by
  refine prog_right (by simp [roundsP]) (by simp [roundsP]) fun f hf => ?_
  have hl : (roundsP k).length = 2 := rfl
  rw [hl]
  simp only [roundsP, List.mem_cons, List.not_mem_nil, or_false] at hf
  rcases hf with rfl | rfl
  · refine ⟨List.replicate k spawnIns ++ [ins1 17 0, ins1 18 0], ins1 14 0, by simp, by simp; omega, ?_, by decide +kernel, by decide +kernel⟩
    intro i hi
    simp only [List.mem_append, List.mem_cons, List.not_mem_nil, or_false] at hi
    rcases hi with hi | rfl | rfl | rfl
    · rw [List.eq_of_mem_replicate hi]; rfl
    · rfl
    · rfl
    · rfl
  · refine ⟨[ins1 0 0, ins1 0 0], ⟨6, 0, 0, 0, 1⟩, rfl, by simp, ?_, by decide +kernel, by decide +kernel⟩
    intro i hi
    simp only [List.mem_cons, List.not_mem_nil, or_false] at hi
    rcases hi with rfl | rfl | rfl <;> decide +kernel
theorem chain_right (k : Nat) (h2 : k ≤ 61) : checkP (mendP (chainP k)) = (-1, -1, 0) := by
  refine prog_right (by simp [chainP]) (by simp [chainP]) fun f hf => ?_
  have hl : (chainP k).length = 2 := rfl
  rw [hl]
  simp only [chainP, List.mem_cons, List.not_mem_nil, or_false] at hf
  rcases hf with rfl | rfl
  · refine ⟨List.replicate k spawnIns, ins1 14 0, rfl, by simp; omega, ?_, by decide +kernel, by decide +kernel⟩
    intro i hi
    simp only [List.mem_append, List.mem_cons, List.not_mem_nil, or_false] at hi
    rcases hi with hi | rfl
    · rw [List.eq_of_mem_replicate hi]; rfl
    · rfl
  · refine ⟨[ins1 23 1, ins1 15 1, ins1 11 0], ins1 14 0, rfl, by simp, ?_, by decide +kernel, by decide +kernel⟩
    intro i hi
    simp only [List.mem_cons, List.not_mem_nil, or_false] at hi
    rcases hi with rfl | rfl | rfl | rfl <;> decide +kernel
theorem guardCode_right (places : Int) : ∀ k, ∀ i ∈ guardCode k, checkF i.op i.a i.b i.c i.n places 1 = 0
  | 0, i, hi => by simp only [guardCode, List.mem_singleton] at hi; subst hi; rfl
  | k + 1, i, hi => by
    rw [guardCode, List.mem_append] at hi
    rcases hi with hi | hi
    · exact guardCode_right places k i hi
    · simp only [List.mem_cons, List.not_mem_nil, or_false] at hi
      rcases hi with rfl | rfl | rfl <;> rfl
theorem guard_right (k : Nat) (h2 : 3 * k + 2 ≤ 64) : checkP (mendP (guardP k)) = (-1, -1, 0) := by
  refine prog_right (by simp [guardP]) (by simp [guardP]) fun f hf => ?_
  have hl : (guardP k).length = 1 := rfl
  rw [hl]
  simp only [guardP, List.mem_singleton] at hf
  subst hf
  refine ⟨guardCode k, ins1 14 0, rfl, by simp [guardCode_len]; omega, ?_, by decide +kernel, by decide +kernel⟩
  intro i hi
  rw [List.mem_append] at hi
  rcases hi with hi | hi
  · exact guardCode_right _ k i hi
  · rw [List.mem_singleton] at hi; subst hi; rfl
end Go.Proofs.YtlkmpafendggiaaDoor

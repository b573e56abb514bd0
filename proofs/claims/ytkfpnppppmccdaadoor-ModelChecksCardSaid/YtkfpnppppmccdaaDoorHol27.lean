/-
  Chapter 27, plain: whoever holds the world owns it; who acts is not suspended behind it. No program in sight.
-/
import Derived.Test.YtkfpnppppmccdaaDoorMMd27
namespace Go.Proofs.YtkfpnppppmccdaaDoor
def invH (M : Md) : Prop := M.holder ≠ 0 → M.owner = M.holder
theorem acts_sus {M : Md} {g : Int} {k : Nat} (h : actsP M g = true) (hg : getM M g = some k) : (goAt M k).sus = false ∧ (M.holder = 0 ∨ M.holder = g) := by
  unfold actsP at h
  rw [hg] at h
  simp only [Bool.and_eq_true, Bool.not_eq_true', Bool.or_eq_true, decide_eq_true_eq] at h
  exact ⟨h.2.2.1, h.2.2.2⟩
theorem goAt_set {M : Md} {k t : Nat} (ht : t < M.l.length) (x : Go) : goAt { M with l := M.l.set t x } k = if t = k then x else goAt M k := by
  unfold goAt
  simp only [List.getD_eq_getElem?_getD, List.getElem?_set]
  by_cases e : t = k
  · subst e
    rw [if_pos rfl, if_pos rfl, if_pos ht]
    rfl
  · rw [if_neg e, if_neg e]
theorem goAt_app {M : Md} {k : Nat} (hk : k < M.l.length) (x : Go) : goAt { M with l := M.l ++ [x] } k = goAt M k := by
  unfold goAt
  simp only [List.getD_eq_getElem?_getD]
  rw [List.getElem?_append_left hk]
/-- What a deed leaves of whoever does it. -/
theorem deed_self {M : Md} {g : Int} {k : Nat} {i : Ins} (hk : k < M.l.length) (hs : (goAt M k).sus = false) : M.l.length ≤ (deedP M g k i).2.l.length ∧ (goAt (deedP M g k i).2 k).sus = false := by
  unfold deedP
  split
  · unfold suspP
    cases ho : otherP M k (regA (goAt M k) i) with
    | none => exact ⟨Nat.le_refl _, hs⟩
    | some t =>
      have ht := otherP_lt ho
      have hne : t ≠ k := by
        unfold otherP at ho
        cases hg : getM M (regA (goAt M k) i) with
        | none => rw [hg] at ho; cases ho
        | some t' =>
          rw [hg] at ho
          simp only at ho
          split at ho
          · cases ho
          · rename_i h1
            injection ho with ho
            omega
      simp only
      split
      · exact ⟨Nat.le_refl _, hs⟩
      · split
        · exact ⟨Nat.le_refl _, hs⟩
        · refine ⟨by simp, ?_⟩
          simp only
          rw [goAt_set ht, if_neg hne]
          exact hs
  split
  · unfold resuP
    cases hg : getM M (regA (goAt M k) i) with
    | none => exact ⟨Nat.le_refl _, hs⟩
    | some t =>
      have ht := (getM_lt hg).1
      simp only
      split
      · refine ⟨by simp, ?_⟩
        simp only
        rw [goAt_set ht]
        split
        · rfl
        · exact hs
      · exact ⟨Nat.le_refl _, hs⟩
  split
  · unfold readyP
    cases hg : getM M (regA (goAt M k) i) with
    | none => exact ⟨Nat.le_refl _, hs⟩
    | some t =>
      have ht := (getM_lt hg).1
      simp only
      split
      · exact ⟨Nat.le_refl _, hs⟩
      · refine ⟨by simp, ?_⟩
        simp only
        rw [goAt_set ht]
        split
        · rename_i e
          subst e
          exact hs
        · exact hs
  split
  · unfold spawnP
    split
    · refine ⟨by simp, ?_⟩
      simp only
      rw [goAt_app hk]
      exact hs
    · exact ⟨Nat.le_refl _, hs⟩
  split
  · exact ⟨Nat.le_refl _, hs⟩
  split
  · exact ⟨Nat.le_refl _, hs⟩
  split
  · exact ⟨Nat.le_refl _, hs⟩
  split
  · unfold startP
    simp only
    split
    · exact ⟨Nat.le_refl _, hs⟩
    · exact ⟨Nat.le_refl _, hs⟩
  split
  · unfold barrP
    simp only
    split
    · exact ⟨Nat.le_refl _, hs⟩
    · exact ⟨Nat.le_refl _, hs⟩
  split
  · unfold blockP
    simp only
    split
    · exact ⟨Nat.le_refl _, hs⟩
    · refine ⟨by simp, ?_⟩
      rw [goAt_set hk, if_pos rfl]
      exact hs
  · exact ⟨Nat.le_refl _, hs⟩
/-- What a deed leaves of the holder and the owner. -/
theorem deed_world {M : Md} {g : Int} {k : Nat} {i : Ins} (hi : invH M) (ha : M.holder = 0 ∨ M.holder = g) (hc : commitsP M g k i = true) : invH (deedP M g k i).2 := by
  unfold deedP
  split
  · unfold suspP
    split
    · exact hi
    · split
      · exact hi
      · split <;> exact hi
  split
  · unfold resuP
    split
    · exact hi
    · split <;> exact hi
  split
  · unfold readyP
    split
    · exact hi
    · split <;> exact hi
  split
  · unfold spawnP
    split <;> exact hi
  split
  · exact hi
  split
  · exact hi
  split
  · rename_i h17
    intro _
    show M.owner = g
    unfold commitsP at hc
    by_cases hg : M.holder = g
    · by_cases h0 : M.holder = 0
      · rw [if_pos hg] at hc
        rename_i hx
        have h2 : g ≠ 0 := hx
        exact absurd (hg ▸ h0) h2
      · rw [hi h0, hg]
    · rw [if_neg hg, if_pos (.inl h17)] at hc
      simp only [Bool.and_eq_true, decide_eq_true_eq] at hc
      exact hc.2
  split
  · unfold startP
    simp only
    split
    · intro h
      exact absurd rfl h
    · exact hi
  split
  · unfold barrP
    simp only
    split
    · exact hi
    · rename_i hg
      intro h
      rcases ha with h0 | h0
      · exact absurd h0 h
      · exact absurd h0 hg
  split
  · unfold blockP
    simp only
    split <;> exact hi
  · exact hi
theorem gone_world {M : Md} {g : Int} (hi : invH M) : invH (goneM M g) := by
  unfold goneM invH
  simp only
  split
  · intro h
    exact absurd rfl h
  · rename_i hg
    intro h
    have := hi h
    rw [if_neg (by rw [this]; exact hg), this]
theorem flag_at {M : Md} {f : Go → Bool} {k : Nat} (hk : k < M.l.length) : flagP M f (k + 1) = f (goAt M k) := by
  unfold flagP
  rw [show getM M ((k : Int) + 1) = some k by
    unfold getM
    rw [if_pos (by omega)]
    congr 1
    omega]
theorem holds_step {fs : List Fn} {M : Md} {e : Ev} (hi : invH M) (h : (doP fs M e).2 = true) :
    (M.holder = 0 ∨ M.holder = e.g) ∧ invH (doP fs M e).1 ∧ flagP (doP fs M e).1 (·.sus) e.g = false := by
  unfold doP at h ⊢
  simp only at h ⊢
  split at h
  · rename_i ha
    obtain ⟨k, hg, hk, hgk, -⟩ := acts_get ha
    obtain ⟨hs, hh⟩ := acts_sus ha hg
    refine ⟨hh, ?_⟩
    rw [if_pos ha]
    have hek : (e.g - 1).toNat = k := by omega
    rw [hek] at h ⊢
    split at h
    · rename_i hx
      rw [if_pos hx]
      split at h
      · rename_i hk2
        rw [if_pos hk2]
        split at h
        · rename_i hc
          rw [if_pos hc]
          have h1 := deed_self (g := e.g) (i := insAt fs e.fn e.pc) hk hs
          have h2 := deed_world (i := insAt fs e.fn e.pc) hi hh hc
          unfold commitP at h ⊢
          simp only at h ⊢
          split at h
          · rename_i hn
            rw [if_pos hn]
            simp only
            generalize deedP M e.g k (insAt fs e.fn e.pc) = r at h1 h2 ⊢
            generalize (stepT fs (goAt M k).th r.1).1 = u
            have hk2 : k < r.2.l.length := by omega
            have hinv : invH { r.2 with l := r.2.l.set k { goAt r.2 k with th := u, beg := false } } := h2
            have hfl : flagP { r.2 with l := r.2.l.set k { goAt r.2 k with th := u, beg := false } } (·.sus) (k + 1) = false := by
              rw [flag_at (by simpa using hk2), goAt_set hk2, if_pos rfl]
              exact h1.2
            split
            · refine ⟨gone_world hinv, ?_⟩
              rw [hgk]
              exact hfl
            · exact ⟨hinv, by rw [hgk]; exact hfl⟩
          · cases h
        · cases h
      · rename_i hk2
        rw [if_neg hk2]
        split at h
        · rename_i hb
          rw [if_pos hb]
          have h0 : M.holder = 0 := by
            have := hb.2.2
            unfold beginsP at this
            by_cases h0 : M.holder = 0
            · exact h0
            · rw [if_pos h0] at this
              cases this
          refine ⟨fun hne => absurd h0 hne, ?_⟩
          rw [hgk, flag_at (by unfold beginM; simpa using hk)]
          show (goAt { M with l := M.l.set k { goAt M k with beg := true }, owner := _ } k).sus = false
          have := goAt_set (k := k) hk { goAt M k with beg := true }
          rw [if_pos rfl] at this
          unfold goAt at this ⊢
          rw [this]
          exact hs
        · cases h
    · cases h
  · cases h
end Go.Proofs.YtkfpnppppmccdaaDoor

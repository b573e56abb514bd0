/-
  Chapter 27, plain: what the reference's commit and begin do is what the program's do. No program in sight.
-/
import Derived.Test.YtkfpnppppmccdaaDoorRbg27
namespace Go.Proofs.YtkfpnppppmccdaaDoor
section
variable {M : Md} {rs : List Pg}
theorem getN_getM (h : M.l = rs.map (·.x)) (r : Int) : getN rs.length r = getM M r := by
  unfold getN getM
  rw [h, List.length_map]
theorem go_at (h : M.l = rs.map (·.x)) {k : Nat} {z : Pg} (hz : rs[k]? = some z) : goAt M k = z.x := by
  unfold goAt
  rw [h, List.getD_eq_getElem?_getD, List.getElem?_map, hz]
  rfl
theorem map_set (k : Nat) (z : Pg) : (rs.set k z).map (·.x) = (rs.map (·.x)).set k z.x := by
  rw [List.map_set]
theorem getN_some (h : M.l = rs.map (·.x)) {r : Int} {t : Nat} (hg : getM M r = some t) : ∃ z, rs[t]? = some z ∧ goAt M t = z.x := by
  have ht := (getM_lt hg).1
  rw [h, List.length_map] at ht
  exact ⟨rs[t], List.getElem?_eq_getElem ht, go_at h (List.getElem?_eq_getElem ht)⟩
/-- Where the threads of a row come from. -/
def From (rs rs2 : List Pg) (i : Ins) (r : Int) : Prop := ∀ z' ∈ rs2, (∃ z0 ∈ rs, z'.x.th = z0.x.th ∧ z'.B = z0.B ∧ z'.d = z0.d) ∨ (i.op = 10 ∧ z' = ⟨newGo i.n r, none, 0⟩)
theorem from_self (i : Ins) (r : Int) : From rs rs i r := fun z hz => .inl ⟨z, hz, rfl, rfl, rfl⟩
theorem from_set {t : Nat} {z z' : Pg} (hz : rs[t]? = some z) (i : Ins) (r : Int) (h1 : z'.x.th = z.x.th) (h2 : z'.B = z.B) (h3 : z'.d = z.d) : From rs (rs.set t z') i r := by
  intro y hy
  rcases List.mem_or_eq_of_mem_set hy with h | h
  · exact .inl ⟨y, h, rfl, rfl, rfl⟩
  · subst h
    exact .inl ⟨z, List.mem_of_getElem? hz, h1, h2, h3⟩
/-- What a commit's instruction does: the program's way and the reference's. -/
theorem com_eq (h : M.l = rs.map (·.x)) {k : Nat} {z : Pg} (hz : rs[k]? = some z) (i : Ins) (a : Nat) (ha : i.a = a) {rs1 rs2 : List Pg} {ho1 ow1 ans : Int} {b1 b2 : Bool}
    (hwr : worldR rs M.holder M.owner ((k : Int) + 1) k z i.op = (rs1, ho1, ow1, b1)) (har : asksR rs1 ho1 M.gs ((k : Int) + 1) k (z.x.th.regs.getD a 0) i = (rs2, ans, b2)) :
    commitsP M (k + 1) k i = (b1 && b2) ∧ ((b1 && b2) = true → deedP M (k + 1) k i = (ans, ⟨M.gs, rs2.map (·.x), ho1, ow1⟩) ∧ From rs rs2 i (z.x.th.regs.getD a 0) ∧ (rs2.length ≤ rs.length ∨ (rs2.length = rs.length + 1 ∧ (rs.length : Int) < M.gs))) := by
  have hg := go_at h hz
  have hr : regA (goAt M k) i = z.x.th.regs.getD a 0 := by
    unfold regA
    rw [hg, ha]
    rfl
  have hk := (List.getElem?_eq_some_iff.1 hz).1
  have hML : M.l.length = rs.length := by rw [h, List.length_map]
  have hM : M = ⟨M.gs, rs.map (·.x), M.holder, M.owner⟩ := by rw [← h]
  generalize z.x.th.regs.getD a 0 = r at hr har ⊢
  obtain ⟨op, ia, ib, ic, inn⟩ := i
  simp only at hwr har
  by_cases h17 : op = 17
  · subst h17
    simp only [worldR, if_true] at hwr
    simp only [asksR, Int.reduceEq, if_false] at har
    simp only [commitsP, deedP, stopP, Int.reduceEq, if_false, if_true, true_or]
    injection har with e1 e2
    injection e2 with e2 e3
    subst e1 e2 e3
    by_cases hh : M.holder = (k : Int) + 1
    · rw [if_pos hh] at hwr ⊢
      injection hwr with e1 e2
      injection e2 with e2 e3
      injection e3 with e3 e4
      subst e1 e2 e3 e4
      refine ⟨rfl, fun _ => ⟨?_, from_self _ _, .inl (Nat.le_refl _)⟩⟩
      rw [← hh, ← h]
    · rw [if_neg hh] at hwr ⊢
      injection hwr with e1 e2
      injection e2 with e2 e3
      injection e3 with e3 e4
      subst e1 e2 e3 e4
      rw [hg, Bool.and_true]
      refine ⟨rfl, fun _ => ⟨?_, from_self _ _, .inl (Nat.le_refl _)⟩⟩
      rw [← h]
  by_cases h18 : op = 18
  · subst h18
    simp only [worldR, Int.reduceEq, if_true, if_false] at hwr
    simp only [asksR, Int.reduceEq, if_false] at har
    simp only [commitsP, deedP, startP, Int.reduceEq, if_false, if_true, or_self]
    injection har with e1 e2
    injection e2 with e2 e3
    subst e1 e2 e3
    by_cases hh : M.holder = (k : Int) + 1
    · rw [if_pos hh] at hwr
      injection hwr with e1 e2
      injection e2 with e2 e3
      injection e3 with e3 e4
      subst e1 e2 e3 e4
      rw [if_pos hh, if_pos hh]
      refine ⟨rfl, fun _ => ⟨?_, from_self _ _, .inl (Nat.le_refl _)⟩⟩
      rw [← h]
    · rw [if_neg hh] at hwr
      injection hwr with e1 e2
      injection e2 with e2 e3
      injection e3 with e3 e4
      subst e1 e2 e3 e4
      rw [if_neg hh, if_neg hh]
      refine ⟨rfl, fun _ => ⟨?_, from_self _ _, .inl (Nat.le_refl _)⟩⟩
      rw [← h]
  by_cases h19 : op = 19
  · subst h19
    simp only [worldR, Int.reduceEq, if_true, if_false] at hwr
    simp only [asksR, Int.reduceEq, if_false] at har
    simp only [commitsP, deedP, barrP, Int.reduceEq, if_false, if_true, or_true]
    injection har with e1 e2
    injection e2 with e2 e3
    subst e1 e2 e3
    by_cases hh : M.holder = (k : Int) + 1
    · rw [if_pos hh] at hwr
      injection hwr with e1 e2
      injection e2 with e2 e3
      injection e3 with e3 e4
      subst e1 e2 e3 e4
      rw [if_pos hh, if_pos hh]
      refine ⟨rfl, fun _ => ⟨?_, from_self _ _, .inl (Nat.le_refl _)⟩⟩
      rw [← h]
    · rw [if_neg hh] at hwr
      injection hwr with e1 e2
      injection e2 with e2 e3
      injection e3 with e3 e4
      subst e1 e2 e3 e4
      rw [if_neg hh, if_neg hh, hg, Bool.and_true]
      refine ⟨rfl, fun _ => ⟨?_, from_self _ _, .inl (Nat.le_refl _)⟩⟩
      rw [← h]
  by_cases h12 : op = 12
  · subst h12
    simp only [worldR, Int.reduceEq, if_true, if_false] at hwr
    simp only [asksR, Int.reduceEq, if_false] at har
    simp only [commitsP, deedP, blockP, Int.reduceEq, if_false, if_true, or_self]
    injection har with e1 e2
    injection e2 with e2 e3
    subst e1 e2 e3
    by_cases hh : M.holder = (k : Int) + 1
    · rw [if_pos hh] at hwr
      injection hwr with e1 e2
      injection e2 with e2 e3
      injection e3 with e3 e4
      subst e1 e2 e3 e4
      rw [if_pos hh, if_pos hh]
      refine ⟨rfl, fun _ => ⟨?_, from_self _ _, .inl (Nat.le_refl _)⟩⟩
      rw [← h]
    · rw [if_neg hh] at hwr
      injection hwr with e1 e2
      injection e2 with e2 e3
      injection e3 with e3 e4
      subst e1 e2 e3 e4
      rw [if_neg hh, if_neg hh]
      refine ⟨rfl, fun _ => ⟨?_, from_set hz _ _ rfl rfl rfl, .inl (by rw [List.length_set]; exact Nat.le_refl _)⟩⟩
      rw [map_set, ← h, hg]
  have hw0 : worldR rs M.holder M.owner ((k : Int) + 1) k z op = (rs, M.holder, M.owner, true) := by unfold worldR; rw [if_neg h17, if_neg h18, if_neg h19, if_neg h12]
  rw [hw0] at hwr
  injection hwr with e1 e2
  injection e2 with e2 e3
  injection e3 with e3 e4
  subst e1 e2 e3 e4
  rw [Bool.true_and]
  by_cases h20 : op = 20
  · subst h20
    have har' : suspR rs M.holder ((k : Int) + 1) k r = (rs2, ans, b2) := by simpa [asksR] using har
    clear har
    simp only [commitsP, deedP, Int.reduceEq, if_false, if_true, or_self]
    unfold suspR at har'
    rw [getN_getM h] at har'
    unfold suspP otherP
    rw [hr]
    cases hgm : getM M r with
    | none =>
      rw [hgm] at har'
      simp only at har' ⊢
      injection har' with e1 e2
      injection e2 with e2 e3
      subst e1 e2 e3
      refine ⟨by split <;> rfl, fun _ => ⟨by rw [← h], from_self _ _, .inl (Nat.le_refl _)⟩⟩
    | some t =>
      obtain ⟨ht, hrt⟩ := getM_lt hgm
      obtain ⟨zt, hzt, hgt⟩ := getN_some h hgm
      rw [hgm] at har'
      simp only at har' ⊢
      by_cases htk : t = k
      · subst htk
        rw [if_pos (by rw [hrt])] at har'
        rw [if_pos rfl]
        injection har' with e1 e2
        injection e2 with e2 e3
        subst e1 e2 e3
        refine ⟨by split <;> rfl, fun _ => ⟨by rw [← h], from_self _ _, .inl (Nat.le_refl _)⟩⟩
      · rw [if_neg (by rw [hrt]; omega)] at har'
        rw [if_neg htk]
        simp only
        rw [hzt, hz] at har'
        simp only [Option.map_some, Option.getD_some] at har'
        rw [hg, hgt]
        by_cases hbad : M.holder ≠ (k : Int) + 1 ∧ z.x.beg = false
        · rw [if_pos hbad] at har'
          injection har' with e1 e2
          injection e2 with e2 e3
          subst e1 e2 e3
          rw [if_neg hbad.1, hbad.2, Bool.false_and]
          exact ⟨rfl, fun h => by cases h⟩
        · rw [if_neg hbad] at har'
          have hok : (if M.holder = (k : Int) + 1 then true else z.x.beg && (zt.x.th.done || !zt.x.sus)) = (decide (M.holder = (k : Int) + 1) || (zt.x.th.done || !zt.x.sus)) := by
            by_cases hh : M.holder = (k : Int) + 1
            · rw [if_pos hh, decide_eq_true hh, Bool.true_or]
            · rw [if_neg hh, decide_eq_false hh, Bool.false_or]
              cases hb : z.x.beg with
              | true => rfl
              | false => exact absurd ⟨hh, hb⟩ hbad
          rw [hok]
          by_cases hdn : zt.x.th.done = true
          · rw [if_pos hdn] at har'
            injection har' with e1 e2
            injection e2 with e2 e3
            subst e1 e2 e3
            rw [if_pos hdn, hdn, Bool.true_or, Bool.or_true]
            exact ⟨rfl, fun _ => ⟨by rw [← h], from_self _ _, .inl (Nat.le_refl _)⟩⟩
          · rw [if_neg hdn] at har'
            rw [if_neg hdn, show zt.x.th.done = false by simpa using hdn, Bool.false_or]
            by_cases hsu : zt.x.sus = true
            · rw [if_pos hsu] at har'
              injection har' with e1 e2
              injection e2 with e2 e3
              subst e1 e2 e3
              rw [if_pos hsu, hsu, Bool.not_true, Bool.or_false]
              exact ⟨rfl, fun _ => ⟨by rw [← h], from_self _ _, .inl (Nat.le_refl _)⟩⟩
            · rw [if_neg hsu] at har'
              injection har' with e1 e2
              injection e2 with e2 e3
              subst e1 e2 e3
              rw [if_neg hsu, show zt.x.sus = false by simpa using hsu, Bool.not_false, Bool.or_true]
              refine ⟨rfl, fun _ => ⟨?_, from_set hzt _ _ rfl rfl rfl, .inl (by rw [List.length_set]; exact Nat.le_refl _)⟩⟩
              rw [map_set, ← h]
  have hcm : commitsP M (k + 1) k ⟨op, ia, ib, ic, inn⟩ = true := by
    unfold commitsP
    split
    · rfl
    · split
      · rename_i hx
        simp only at hx
        omega
      · first | rfl | (rw [if_neg h20])
  rw [hcm]
  by_cases h21 : op = 21
  · subst h21
    simp only [asksR, Int.reduceEq, if_false, if_true] at har
    injection har with e1 e2
    injection e2 with e2 e3
    subst e1 e2 e3
    refine ⟨rfl, fun _ => ?_⟩
    simp only [deedP, Int.reduceEq, if_false, if_true]
    unfold resuP resuR
    rw [hr, getN_getM h]
    cases hgm : getM M r with
    | none => exact ⟨by rw [← h], from_self _ _, .inl (Nat.le_refl _)⟩
    | some t =>
      obtain ⟨zt, hzt, hgt⟩ := getN_some h hgm
      simp only
      rw [hzt, hgt]
      simp only
      by_cases hsu : zt.x.sus = true
      · rw [if_pos hsu, if_pos hsu]
        refine ⟨?_, from_set hzt _ _ rfl rfl rfl, .inl (by simp only [List.length_set]; exact Nat.le_refl _)⟩
        simp only
        rw [map_set, ← h]
      · rw [if_neg hsu, if_neg hsu]
        exact ⟨by rw [← h], from_self _ _, .inl (Nat.le_refl _)⟩
  by_cases h13 : op = 13
  · subst h13
    simp only [asksR, Int.reduceEq, if_false, if_true] at har
    injection har with e1 e2
    injection e2 with e2 e3
    subst e1 e2 e3
    refine ⟨rfl, fun _ => ?_⟩
    simp only [deedP, Int.reduceEq, if_false, if_true]
    unfold readyP readyR
    rw [hr, getN_getM h]
    cases hgm : getM M r with
    | none => exact ⟨by rw [← h], from_self _ _, .inl (Nat.le_refl _)⟩
    | some t =>
      obtain ⟨zt, hzt, hgt⟩ := getN_some h hgm
      simp only
      rw [hzt, hgt]
      simp only
      by_cases hsu : zt.x.th.done = true
      · rw [if_pos hsu, if_pos hsu]
        exact ⟨by rw [← h], from_self _ _, .inl (Nat.le_refl _)⟩
      · rw [if_neg hsu, if_neg hsu]
        refine ⟨?_, from_set hzt _ _ rfl rfl rfl, .inl (by simp only [List.length_set]; exact Nat.le_refl _)⟩
        simp only
        rw [map_set, ← h]
  by_cases h10 : op = 10
  · subst h10
    simp only [asksR, Int.reduceEq, if_false, if_true] at har
    simp only [deedP, Int.reduceEq, if_false, if_true]
    unfold spawnP
    rw [hr, hML]
    by_cases hge : M.gs ≤ rs.length
    · rw [if_pos hge] at har
      injection har with e1 e2
      injection e2 with e2 e3
      subst e1 e2 e3
      rw [if_neg (by omega)]
      exact ⟨rfl, fun _ => ⟨by rw [← h], from_self _ _, .inl (Nat.le_refl _)⟩⟩
    · rw [if_neg hge] at har
      injection har with e1 e2
      injection e2 with e2 e3
      subst e1 e2 e3
      rw [if_pos (by omega)]
      refine ⟨rfl, fun _ => ⟨?_, fun y hy => ?_, .inr ⟨by simp, by omega⟩⟩⟩
      · rw [List.map_append, ← h]
        rfl
      · rw [List.mem_append, List.mem_singleton] at hy
        rcases hy with hy | hy
        · exact .inl ⟨y, hy, rfl, rfl, rfl⟩
        · exact .inr ⟨rfl, hy⟩
  by_cases h22 : op = 22
  · subst h22
    simp only [asksR, Int.reduceEq, if_false, if_true] at har
    injection har with e1 e2
    injection e2 with e2 e3
    subst e1 e2 e3
    refine ⟨rfl, fun _ => ⟨?_, from_self _ _, .inl (Nat.le_refl _)⟩⟩
    simp only [deedP, Int.reduceEq, if_false, if_true]
    unfold resizeP
    rw [hr, ← h]
  by_cases h23 : op = 23
  · subst h23
    simp only [asksR, Int.reduceEq, if_false, if_true] at har
    injection har with e1 e2
    injection e2 with e2 e3
    subst e1 e2 e3
    refine ⟨rfl, fun _ => ⟨?_, from_self _ _, .inl (Nat.le_refl _)⟩⟩
    simp only [deedP, Int.reduceEq, if_false, if_true]
    rw [← h]
  have hel : asksR rs M.holder M.gs ((k : Int) + 1) k r ⟨op, ia, ib, ic, inn⟩ = (rs, 0, true) := by unfold asksR; rw [if_neg h20, if_neg h21, if_neg h13, if_neg h10, if_neg h22, if_neg h23]
  rw [hel] at har
  injection har with e1 e2
  injection e2 with e2 e3
  subst e1 e2 e3
  refine ⟨rfl, fun _ => ⟨?_, from_self _ _, .inl (Nat.le_refl _)⟩⟩
  unfold deedP
  rw [if_neg h20, if_neg h21, if_neg h13, if_neg h10, if_neg h22, if_neg h23, if_neg h17, if_neg h18, if_neg h19, if_neg h12, ← h]
/-- The same of begin. -/
theorem beg_eq (h : M.l = rs.map (·.x)) {k : Nat} {z : Pg} (hz : rs[k]? = some z) (i : Ins) (a : Nat) (ha : i.a = a) :
    beginsR rs.length M.holder M.owner ((k : Int) + 1) (z.x.th.regs.getD a 0) i.op z.x.beg = beginsP M k i ∧ (beginsP M k i = true → beginM M (k + 1) k i = ⟨M.gs, (rs.set k { z with x := { z.x with beg := true } }).map (·.x), M.holder, if i.op = 20 then M.owner else (k : Int) + 1⟩) := by
  have hg := go_at h hz
  have hr : regA (goAt M k) i = z.x.th.regs.getD a 0 := by
    unfold regA
    rw [hg, ha]
    rfl
  have hML : M.l.length = rs.length := by rw [h, List.length_map]
  have h1 : beginsR rs.length M.holder M.owner ((k : Int) + 1) (z.x.th.regs.getD a 0) i.op z.x.beg = beginsP M k i := by
    unfold beginsR beginsP
    rw [hg]
    split
    · rfl
    split
    · rfl
    split
    · rfl
    split
    · rw [← hML, there_get, show regA z.x i = z.x.th.regs.getD a 0 by rw [hg] at hr; exact hr]
      unfold otherP
      cases hgm : getM M (z.x.th.regs.getD a 0) with
      | none => rfl
      | some t =>
        have hrt := (getM_lt hgm).2
        simp only [Option.isSome_some, Bool.true_and]
        by_cases htk : t = k
        · rw [if_pos htk, decide_eq_false (fun h => h (by rw [hrt, htk]))]
          rfl
        · rw [if_neg htk, decide_eq_true (by rw [hrt]; omega)]
          rfl
    · rfl
  refine ⟨h1, fun hb => ?_⟩
  have hop : i.op = 17 ∨ i.op = 19 ∨ i.op = 20 := by
    unfold beginsP at hb
    split at hb
    · cases hb
    split at hb
    · cases hb
    split at hb
    · omega
    split at hb
    · omega
    · cases hb
  unfold beginM
  rw [map_set, ← h, hg]
  rcases hop with e | e | e
  · rw [e, show opAsks 17 = false by decide +kernel]
    rfl
  · rw [e, show opAsks 19 = false by decide +kernel]
    rfl
  · rw [e, show opAsks 20 = true by decide +kernel]
    rfl
end
end Go.Proofs.YtkfpnppppmccdaaDoor

/-
  Chapter 27: the reference's model behind a commit, behind a begin.
-/
import Derived.Test.YtkfpnppppmccdaaDoorRcm27
import Derived.Test.YtkfpnppppmccdaaDoorReq27
namespace Go.Proofs.YtkfpnppppmccdaaDoor
open Go.RowKit
/-- Stacks lie where they lay, or are new. -/
def Old (w : World) (rs rs' : List Pg) : Prop := ∀ z' ∈ rs', z'.x.th.stack ≠ [] → ∀ b, ob z'.B = some b → (∃ z ∈ rs, z.x.th.stack ≠ [] ∧ ob z.B = some b) ∨ w.heap.size ≤ b
theorem old_self (w : World) (rs : List Pg) : Old w rs rs := fun z hz hs _ hb => .inl ⟨z, hz, hs, hb⟩
theorem new_thok (w : World) (n r : Int) : ThOk w w.heap.size (newGo n r).th none 0 := ⟨rfl, .inl rfl, Nat.zero_le _, by show (0 : Nat) ≤ 2 ^ 63 - 1; decide⟩
theorem com_ris {w w' : World} {F A A' : Option Addr} {fs : List Fn} {M : Md} {rs : List Pg} (hR : RIs w F fs M A rs) (hgs : M.gs ≤ 100) {k : Nat} {z z2 : Pg} (hz : rs[k]? = some z) (i : Ins) (a : Nat) (ha : i.a = a) (hfit : i.op = 10 → ∀ x, fitsT fs (newTh i.n x) = true) {rs1 rs2 : List Pg} {ho1 ow1 ans : Int} {b1 b2 : Bool}
    (hwr : worldR rs M.holder M.owner ((k : Int) + 1) k z i.op = (rs1, ho1, ow1, b1)) (har : asksR rs1 ho1 M.gs ((k : Int) + 1) k (z.x.th.regs.getD a 0) i = (rs2, ans, b2)) (hbb : (b1 && b2) = true) (hb : Below w.heap.size w w') (hz2 : rs2[k]? = some z2)
    {B' : Option Addr} {d' : Nat} (hrow : Row w' w'.heap.size A' ((rs2.set k ⟨{ z2.x with th := (stepT fs z.x.th ans).1, beg := false }, B', d'⟩).flatMap pgVals)) (hth : ThOk w' w'.heap.size (stepT fs z.x.th ans).1 B' d') (n : Int) (hn : (stepT fs z.x.th ans).2.1 = n) (hfb : ∀ x, ob B' = some x → w.heap.size ≤ x) :
    commitsP M (k + 1) k i = true ∧ (commitP fs M (k + 1) k i n).2 = true ∧ RIs w' F fs (commitP fs M (k + 1) k i n).1 A' (rs2.set k ⟨{ z2.x with th := (stepT fs z.x.th ans).1, beg := false }, B', d'⟩) ∧
      (commitP fs M (k + 1) k i n).1.holder = (if (stepT fs z.x.th ans).1.done = true ∧ ho1 = (k : Int) + 1 then 0 else ho1) ∧ (commitP fs M (k + 1) k i n).1.owner = (if (stepT fs z.x.th ans).1.done = true ∧ ow1 = (k : Int) + 1 then 0 else ow1) ∧ Old w rs (rs2.set k ⟨{ z2.x with th := (stepT fs z.x.th ans).1, beg := false }, B', d'⟩) := by
  obtain ⟨hc, hd⟩ := com_eq hR.hl hz i a ha hwr har
  obtain ⟨hde, hfr, hlen⟩ := hd hbb
  have hg := go_at hR.hl hz
  have hzm := List.mem_of_getElem? hz
  have hk2 := (List.getElem?_eq_some_iff.1 hz2).1
  have hg2 : goAt ⟨M.gs, rs2.map (·.x), ho1, ow1⟩ k = z2.x := go_at rfl hz2
  have hP : commitP fs M (k + 1) k i n = (if (stepT fs z.x.th ans).1.done = true then goneM ⟨M.gs, (rs2.map (·.x)).set k { z2.x with th := (stepT fs z.x.th ans).1, beg := false }, ho1, ow1⟩ (k + 1) else ⟨M.gs, (rs2.map (·.x)).set k { z2.x with th := (stepT fs z.x.th ans).1, beg := false }, ho1, ow1⟩, true) := by
    unfold commitP
    simp only
    rw [hde, hg, if_pos hn]
    simp only
    rw [hg2]
  rw [hP]
  have hl : (if (stepT fs z.x.th ans).1.done = true then goneM ⟨M.gs, (rs2.map (·.x)).set k { z2.x with th := (stepT fs z.x.th ans).1, beg := false }, ho1, ow1⟩ (k + 1) else (⟨M.gs, (rs2.map (·.x)).set k { z2.x with th := (stepT fs z.x.th ans).1, beg := false }, ho1, ow1⟩ : Md)).l = (rs2.set k ⟨{ z2.x with th := (stepT fs z.x.th ans).1, beg := false }, B', d'⟩).map (·.x) := by
    rw [map_set]
    split <;> rfl
  have hfew := hR.few
  have key : ∀ y ∈ rs2.set k ⟨{ z2.x with th := (stepT fs z.x.th ans).1, beg := false }, B', d'⟩, ThOk w' w'.heap.size y.x.th y.B y.d ∧ fitsT fs y.x.th = true ∧ y.x.th.stack.length ≤ 40 := by
    intro y hy
    rcases List.mem_or_eq_of_mem_set hy with h | h
    · rcases hfr y h with ⟨z0, h0, e1, e2, e3⟩ | ⟨e1, e2⟩
      · rw [e1, e2, e3]
        exact ⟨(hR.th z0 h0).step hb, hR.fits z0 h0, hR.stk z0 h0⟩
      · rw [e2]
        exact ⟨new_thok _ _ _, hfit e1 _, Nat.zero_le _⟩
    · subst h
      exact ⟨hth, fits_step ans (hR.fits z hzm), step_small12 fs z.x.th ans (hR.stk z hzm) (hR.fits z hzm)⟩
  have hold : Old w rs (rs2.set k ⟨{ z2.x with th := (stepT fs z.x.th ans).1, beg := false }, B', d'⟩) := by
    intro y hy hs b hb'
    rcases List.mem_or_eq_of_mem_set hy with h | h
    · rcases hfr y h with ⟨z0, h0, e1, e2, -⟩ | ⟨-, e2⟩
      · exact .inl ⟨z0, h0, by rw [← e1]; exact hs, by rw [← e2]; exact hb'⟩
      · rw [e2] at hs
        exact absurd rfl hs
    · subst h
      exact .inr (hfb b hb')
  refine ⟨hc.trans hbb, rfl, ⟨hl, hrow, fun y hy => (key y hy).1, by rw [List.length_set]; omega, ⟨hR.prog.1.step hb, hR.prog.2⟩, fun y hy => (key y hy).2.1, fun y hy => (key y hy).2.2⟩, ?_, ?_, hold⟩
  · by_cases hdn : (stepT fs z.x.th ans).1.done = true
    · simp only
      rw [if_pos hdn]
      unfold goneM
      simp only
      by_cases hh : ho1 = (k : Int) + 1
      · rw [if_pos hh, if_pos ⟨hdn, hh⟩]
      · rw [if_neg hh, if_neg (fun h => hh h.2)]
    · simp only
      rw [if_neg hdn, if_neg (fun h => hdn h.1)]
  · by_cases hdn : (stepT fs z.x.th ans).1.done = true
    · simp only
      rw [if_pos hdn]
      unfold goneM
      simp only
      by_cases hh : ow1 = (k : Int) + 1
      · rw [if_pos hh, if_pos ⟨hdn, hh⟩]
      · rw [if_neg hh, if_neg (fun h => hh h.2)]
    · simp only
      rw [if_neg hdn, if_neg (fun h => hdn h.1)]
theorem beg_ris {w w' : World} {F A A' : Option Addr} {fs : List Fn} {M : Md} {rs : List Pg} (hR : RIs w F fs M A rs) {k : Nat} {z : Pg} (hz : rs[k]? = some z) (i : Ins) (a : Nat) (ha : i.a = a) (hb : Below w.heap.size w w') (hbb : beginsP M k i = true) (hrow : Row w' w'.heap.size A' ((rs.set k { z with x := { z.x with beg := true } }).flatMap pgVals)) :
    RIs w' F fs (beginM M (k + 1) k i) A' (rs.set k { z with x := { z.x with beg := true } }) ∧ (beginM M (k + 1) k i).holder = M.holder ∧ (beginM M (k + 1) k i).owner = (if i.op = 20 then M.owner else (k : Int) + 1) ∧ Old w rs (rs.set k { z with x := { z.x with beg := true } }) := by
  have he := (beg_eq hR.hl hz i a ha).2 hbb
  rw [he]
  have hzm := List.mem_of_getElem? hz
  have key : ∀ y ∈ rs.set k { z with x := { z.x with beg := true } }, ∃ z0 ∈ rs, y.x.th = z0.x.th ∧ y.B = z0.B ∧ y.d = z0.d := by
    intro y hy
    rcases List.mem_or_eq_of_mem_set hy with h | h
    · exact ⟨y, h, rfl, rfl, rfl⟩
    · subst h
      exact ⟨z, hzm, rfl, rfl, rfl⟩
  refine ⟨⟨rfl, hrow, fun y hy => ?_, by rw [List.length_set]; exact hR.few, ⟨hR.prog.1.step hb, hR.prog.2⟩, fun y hy => ?_, fun y hy => ?_⟩, rfl, rfl, fun y hy hs b hb' => by
    obtain ⟨z0, h0, e1, e2, -⟩ := key y hy
    exact .inl ⟨z0, h0, by rw [← e1]; exact hs, by rw [← e2]; exact hb'⟩⟩
  · obtain ⟨z0, h0, e1, e2, e3⟩ := key y hy
    rw [e1, e2, e3]
    exact (hR.th z0 h0).step hb
  · obtain ⟨z0, h0, e1, -, -⟩ := key y hy
    rw [e1]
    exact hR.fits z0 h0
  · obtain ⟨z0, h0, e1, -, -⟩ := key y hy
    rw [e1]
    exact hR.stk z0 h0
end Go.Proofs.YtkfpnppppmccdaaDoor

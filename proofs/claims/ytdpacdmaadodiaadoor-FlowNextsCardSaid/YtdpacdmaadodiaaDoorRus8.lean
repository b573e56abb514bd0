/-
  Chapter 8: the walk into the depth of flow.reached, with the closure of flow.Used. Conditions: its boxes lie in memory.
-/
import Derived.Test.YtdpacdmaadodiaaDoorRea8
import Derived.Test.YtdpacdmaadodiaaDoorCll8
namespace Go.Proofs.YtdpacdmaadodiaaDoor
open Go.RowKit
section
variable {P : World → Prop} {w : World} {m0 ob nb wb rk fb n : Nat} {nx : Nat → List Nat} {vs : List Bool}
abbrev fvUsed (fb : Nat) : Value := .func (.func 38) #[] #[.pointer (some ⟨fb, 0, none⟩)]
set_option maxRecDepth 10000 in
set_option maxHeartbeats 4000000 in
theorem reaU_step (k : Nat) (hK : Kp8 P m0 rk) (hX : ∀ x y, y ∈ nx x → y < n) (hC : ∀ V x, P V → x < n → Calls Tryd.prog 38 #[.int .i64 x, .pointer (some ⟨fb, 0, none⟩)] V (RowOut V (nx x)))
    (hE : RE P w m0 ob nb wb rk (fvUsed fb) n vs) (hk : k < n)
    (IH : ∀ (V : World) (vs' : List Bool) (y : Nat), vs'.count false < vs.count false → RE P V m0 ob nb wb rk (fvUsed fb) n vs' → y < n →
      Calls Tryd.prog 39 (ReaArgs y ob nb wb) V (ReaOut P V m0 ob nb wb rk (fvUsed fb) n nx y vs')) :
    Calls Tryd.prog 39 (ReaArgs k ob nb wb) w (ReaOut P w m0 ob nb wb rk (fvUsed fb) n nx k vs) := by
  have HE := Lib.hid hE
  have HIH := Lib.hid IH
  have HK := Lib.hid hk
  have HC := Lib.hid hC
  have HX := Lib.hid hX
  have a0 : w.cell? ⟨ob, 0, none⟩ = some (.slice (some ⟨rk, 0, none⟩) n n) := (hE.obx.cell 0).trans rfl
  have a1 : w.cell? ⟨rk, k, none⟩ = some (.bool (vs.getD k false)) := by rw [hE.rr.cell, bool_at8 _ _ (by rw [hE.len]; exact hk)]
  have fz : w.frozen? ⟨rk, k, none⟩ = false := hE.rr.frozen k
  obtain ⟨v, HV⟩ : ∃ v, Hid (v = vs.getD k false) := ⟨_, Lib.hid rfl⟩
  rw [← HV.out] at a1
  have HKP := Lib.hid hK
  unfold ReaArgs
  clear hE IH hC hX hK
  cases v with
  | true =>
    go_enter Tryd.func39, Tryd.ntmps39
    go_wp2_with fail
    refine bodyPost_ret (results_none rfl _ _ _) rfl ?_
    exact ⟨rfl, vs, HE.out, Rw.same HE.out.len HV.out.symm, .refl _ _⟩
  | false =>
    have HR0 := Lib.hid (Rl.start (nx := nx) HE.out.len HK.out HV.out.symm)
    go_enter Tryd.func39, Tryd.ntmps39
    go_upto_region 2 with (fail)
    obtain ⟨V2, HV2⟩ : ∃ V, Hid (V = w.setCell ⟨rk, k, none⟩ (.bool true)) := ⟨_, Lib.hid rfl⟩
    rw [← HV2.out]
    have HE2 := Lib.hid (show RE P V2 m0 ob nb wb rk (fvUsed fb) n (vs.set k true) by rw [HV2.out]; exact HE.out.set HKP.out k true)
    have HM2 := Lib.hid (show Mv [rk] w V2 by rw [HV2.out]; exact (Mv.refl _ w).set _ _ (by simp))
    have HP2 := Lib.hid (HC.out V2 k HE2.out.p HK.out)
    have n0 : V2.cell? ⟨nb, 0, none⟩ = some (fvUsed fb) := (HE2.out.nbx.cell 0).trans rfl
    obtain ⟨nl, HNL⟩ : ∃ l, Hid (l = nx k) := ⟨_, Lib.hid rfl⟩
    rw [← HNL.out] at HP2
    clear a0 a1 fz
    go_wp2_with fail
    refine HP2.out.mono ?_
    rintro e V3 ⟨A, cl, rfl, ho3, hb3⟩
    have HO3 := Lib.hid ho3
    have HB3 := Lib.hid hb3
    clear ho3 hb3 n0
    obtain ⟨len, HLN⟩ : ∃ l, Hid (l = nl.length) := ⟨_, Lib.hid rfl⟩
    rw [← HLN.out] at HO3 ⊢
    have HRK := Lib.hid HE2.out.rr.lt
    have HM3 := Lib.hid (HM2.out.trans (.of_below HB3.out (Nat.le_refl _)))
    have HE3 := Lib.hid (HE2.out.step HKP.out HB3.out)
    go_wp2_with fail
    go_loopw [18] (fun vi wr => ∃ (j : Nat) (vj : List Bool), j ≤ len ∧ vi = .int .i64 j ∧ Hid (RE P wr m0 ob nb wb rk (fvUsed fb) n vj) ∧ Hid (Rl n nx k vs j vj) ∧ Hid (Own wr V2.heap.size 3 1 A len cl (ints (upI nl))) ∧ Hid (Mv [rk] w wr)) (fun vi _ => len - (intOf vi).toNat)
    case atStart => exact ⟨0, _, by omega, rfl, HE3, HR0, HO3, HM3⟩
    case round =>
      rcases hrel with ⟨j, vj, hj, rfl, K1, K2, K3, K4⟩
      by_cases hlt : j < len
      · have HJW := Lib.hid (show wrap64 ((j : Int) + 1) = ((j + 1 : Nat) : Int) by have h1 := own_few8 K3.out; unfold maxLen at h1; unfold wrap64; omega)
        have hj2 : j < nl.length := by rw [← HLN.out]; exact hlt
        obtain ⟨y, HY⟩ : ∃ y, Hid (y = nl[j]) := ⟨_, Lib.hid rfl⟩
        have HYM := Lib.hid (show (nx k)[j]? = some y by rw [← HNL.out, HY.out]; exact List.getElem?_eq_getElem hj2)
        have HYN := Lib.hid (HX.out k y (List.mem_of_getElem? HYM.out))
        obtain ⟨b, off, e0, hb, hc⟩ := K3.out.row.at_ (k := j) (by simpa [ints, upI] using hj2)
        subst e0
        have c0 : wr.cell? ⟨b, off + j, none⟩ = some (.int .i64 y) := hc _ _ (by simp [ints, upI, hj2, HY.out])
        have w0 : wr.cell? ⟨wb, 0, none⟩ = some (.func (.func 39) #[] #[.pointer (some ⟨ob, 0, none⟩), .pointer (some ⟨nb, 0, none⟩), .pointer (some ⟨wb, 0, none⟩)]) := (K1.out.wbx.cell 0).trans rfl
        have HP := Lib.hid (HIH.out wr vj y K2.out.cnt K1.out HYN.out)
        clear hc hb HY hj2
        go_wp2_with fail
        refine HP.out.mono ?_
        rintro e V4 ⟨rfl, v4, h1, h2, h3⟩
        have HR4 := Lib.hid (K2.out.next HYM.out h2)
        have HV4 := Lib.hid h1
        have HM4 := Lib.hid (K4.out.trans h3)
        have HO4 := Lib.hid (own_mv K3.out h3 (by intro q hq; have h6 := (K3.out.lt q hq).1; have h7 := HRK.out; simp; omega))
        clear h1 h2 h3 c0 w0 HP
        go_wp2_with fail
        rw [HJW.out]
        exact ⟨⟨j + 1, _, by omega, rfl, HV4, HR4, HO4, HM4⟩, by simp only [intOf, Int.toNat_natCast]; omega⟩
      · obtain rfl : j = len := by omega
        have HFIN := Lib.hid (K2.out.finish (by rw [← HNL.out, HLN.out]; exact Nat.le_refl _))
        go_wp2_with fail
        go_end0
        exact ⟨rfl, _, K1.out, HFIN.out, K4.out⟩
theorem reaU_any (k : Nat) (hK : Kp8 P m0 rk) (hX : ∀ x y, y ∈ nx x → y < n) (hC : ∀ V x, P V → x < n → Calls Tryd.prog 38 #[.int .i64 x, .pointer (some ⟨fb, 0, none⟩)] V (RowOut V (nx x)))
    (hE : RE P w m0 ob nb wb rk (fvUsed fb) n vs) (hk : k < n) :
    Calls Tryd.prog 39 (ReaArgs k ob nb wb) w (ReaOut P w m0 ob nb wb rk (fvUsed fb) n nx k vs) := by
  generalize hm : vs.count false = r
  induction r using Nat.strongRecOn generalizing w vs k with
  | ind r ih => exact reaU_step k hK hX hC hE hk fun V vs' y hlt h1 h2 => ih _ (by omega) y h1 h2 rfl
end
set_option maxRecDepth 10000 in
set_option maxHeartbeats 4000000 in
theorem reaU_reached {w : World} {fb n : Nat} {nx : Nat → List Nat} (hn : n ≤ 70) (hX : ∀ x y, y ∈ nx x → y < n)
    (hC : ∀ V x, Below w.heap.size w V → x < n → Calls Tryd.prog 38 #[.int .i64 x, .pointer (some ⟨fb, 0, none⟩)] V (RowOut V (nx x))) :
    Calls Tryd.prog 29 #[.int .i64 n, fvUsed fb] w (RchOut w n nx) := by
  have hm : ∀ w, (Instr.makeSlice 28 (.int .i64 (n : Int)) (.int .i64 (n : Int))).run Tryd.prog w = .ok (.slice (some ⟨w.heap.size, 0, none⟩) n n) (w.alloc (.cells (madeCells #[.bool false] n) 4)) :=
    run_make_row' _ _ _ _ Tryd.underlying28 Tryd.infoB9 rfl _ _ n (by omega) (by omega)
  have HC := Lib.hid hC
  have HX := Lib.hid hX
  clear hC hX
  unfold fvUsed
  go_enter Tryd.func29, Tryd.ntmps29
  go_upto_region 4 with (fail)
  generalize hW : (((w.alloc _).alloc _).alloc _).alloc _ = W
  obtain ⟨b1, b2, b3, b4, hB⟩ := blkF8 w _ _ _ _ _ _ _ _ W hW.symm
  rw [made_bool9] at b2
  have HRE := Lib.hid (show RE (Below w.heap.size w) W w.heap.size (w.heap.size + 1 + 1) w.heap.size (w.heap.size + 1 + 1 + 1) (w.heap.size + 1) (fvUsed fb) n (List.replicate n false) from
    ⟨b3, b1, b4, b2, hB, by simp, by omega, hB.size⟩)
  clear hW b1 b2 b3 b4 hB hm
  obtain ⟨m0, HM0⟩ : ∃ q, Hid (q = w.heap.size) := ⟨_, Lib.hid rfl⟩
  obtain ⟨nb, HNB⟩ : ∃ q, Hid (q = w.heap.size) := ⟨_, Lib.hid rfl⟩
  obtain ⟨rk, HRK⟩ : ∃ q, Hid (q = w.heap.size + 1) := ⟨_, Lib.hid rfl⟩
  obtain ⟨ob, HOB⟩ : ∃ q, Hid (q = w.heap.size + 1 + 1) := ⟨_, Lib.hid rfl⟩
  obtain ⟨wb, HWB⟩ : ∃ q, Hid (q = w.heap.size + 1 + 1 + 1) := ⟨_, Lib.hid rfl⟩
  have HLO := Lib.hid (show w.heap.size ≤ rk by rw [HRK.out]; omega)
  rw [← HWB.out, ← HOB.out, ← HRK.out] at HRE
  rw [← HWB.out, ← HOB.out]
  have hE : RE (Below w.heap.size w) W w.heap.size ob nb wb rk (fvUsed fb) n (List.replicate n false) := by rw [HNB.out]; exact HRE.out
  have HWK := Lib.hid (fun (h0 : 0 < n) => reaU_any (nx := nx) 0 (kp_below w rk HLO.out) HX.out HC.out hE h0)
  have HE := Lib.hid hE
  have w0 : W.cell? ⟨wb, 0, none⟩ = some (.func (.func 39) #[] #[.pointer (some ⟨ob, 0, none⟩), .pointer (some ⟨nb, 0, none⟩), .pointer (some ⟨wb, 0, none⟩)]) := (hE.wbx.cell 0).trans rfl
  have o0 : W.cell? ⟨ob, 0, none⟩ = some (.slice (some ⟨rk, 0, none⟩) n n) := (hE.obx.cell 0).trans rfl
  clear HRE hE HNB HRK HOB HWB HM0
  by_cases h0 : 0 < n
  · have HW := Lib.hid (HWK.out h0)
    clear HWK
    go_wp2_with fail
    refine HW.out.mono ?_
    rintro e V4 ⟨rfl, v4, h1, h2, h3⟩
    have o4 : V4.cell? ⟨ob, 0, none⟩ = some (.slice (some ⟨rk, 0, none⟩) n n) := (h1.obx.cell 0).trans rfl
    have HR := Lib.hid h1
    have HT := Lib.hid h2.top
    clear h1 h2 h3 o0
    go_wp2_with fail
    go_ret
    exact ⟨rk, v4, rfl, HR.out.rr, HLO.out, HT.out, HR.out.p⟩
  · obtain rfl : n = 0 := by omega
    clear HWK h0
    go_wp2_with fail
    go_ret
    exact ⟨rk, _, rfl, HE.out.rr, HLO.out, ⟨HE.out.len, fun x hx => absurd hx (Nat.not_lt_zero _)⟩, HE.out.p⟩
end Go.Proofs.YtdpacdmaadodiaaDoor

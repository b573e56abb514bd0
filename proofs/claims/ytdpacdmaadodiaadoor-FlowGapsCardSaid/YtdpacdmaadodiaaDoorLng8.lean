/-
  Chapter 8: flow.Longest, flow.Bound and the reference's Longest. Conditions: the program lies in memory, the table is laid.
-/
import Derived.Test.YtdpacdmaadodiaaDoorRgp8
namespace Go.Proofs.YtdpacdmaadodiaaDoor
open Go.RowKit
def gapF (f : Fn) : Nat × Bool := gapG f.code.length (nxN f.code) (openB f.safe)
/-- The greatest gap, or that one has no end. -/
def longL : List Fn → Nat → Nat × Bool
  | [], a => (a, true)
  | f :: fs, a => if (gapF f).2 = true then longL fs (max a (gapF f).1) else (0, false)
theorem longL_at {fs : List Fn} {k r : Nat} (hk : k < fs.length) : longL (fs.drop k) r = if (gapF fs[k]).2 = true then longL (fs.drop (k + 1)) (max r (gapF fs[k]).1) else (0, false) := by
  rw [List.drop_eq_getElem_cons hk]
  rfl
theorem longL_le {fs : List Fn} (h : ∀ f ∈ fs, f.code.length ≤ 64) (a : Nat) (ha : a ≤ 64) : (longL fs a).1 ≤ 64 := by
  induction fs generalizing a with
  | nil => exact ha
  | cons f fs ih =>
    unfold longL
    by_cases hg : (gapF f).2 = true
    · rw [if_pos hg]
      have h1 := gap_lt (n := f.code.length) (nx := nxN f.code) (op := openB f.safe) hg
      have h2 := h f (by simp)
      have h3 : (gapF f).1 ≤ 64 := Nat.le_trans h1 h2
      exact ih (fun g hg => h g (by simp [hg])) _ (by omega)
    · rw [if_neg hg]; exact Nat.zero_le _
set_option maxRecDepth 10000 in
set_option maxHeartbeats 4000000 in
theorem long_any {w : World} {A : Option Addr} {c : Nat} {fs : List Fn} (hT : Tab w) (hf : FnsOk w w.heap.size A fs) (hl : ∀ f ∈ fs, f.code.length ≤ 64) (hm : fs.length ≤ 16) :
    Calls Tryd.prog 11 #[.agg #[.slice A fs.length c]] w fun e w' => e = .returned (twoOf (longL fs 0)) ∧ Below w.heap.size w w' := by
  obtain ⟨W, HW⟩ : ∃ W, Hid (W = w.alloc (.cells #[.slice A fs.length c] 24)) := ⟨_, Lib.hid rfl⟩
  obtain ⟨pb, HPB⟩ : ∃ q, Hid (q = w.heap.size) := ⟨_, Lib.hid rfl⟩
  have hbw : Below w.heap.size w W := by rw [HW.out]; exact (Below.refl _ w).alloc (Nat.le_refl _) _
  have HB := Lib.hid hbw
  have HP := Lib.hid (show Blk W pb 24 #[.slice A fs.length c] by rw [HW.out, HPB.out]; exact Blk.new w _ _)
  have HF := Lib.hid (hf.step hbw)
  have HT := Lib.hid (hT.step hbw)
  have HL := Lib.hid hl
  obtain ⟨n, HN⟩ : ∃ n, Hid (n = fs.length) := ⟨_, Lib.hid rfl⟩
  rw [← HN.out] at HW HP hm ⊢
  have p0 : W.cell? ⟨pb, 0, none⟩ = some (.slice A n c) := (HP.out.cell 0).trans rfl
  have hw := HW.out
  have hpb := HPB.out
  clear hf hT hbw hl
  go_enter Tryd.func11, Tryd.ntmps11
  go_upto_region 1 with (fail)
  rw [← hw, ← hpb]
  clear hw hpb
  go_upto_region 2 with (fail)
  clear p0
  go_loopw [2, 11] (fun v2 vi wr => ∃ k r : Nat, k ≤ n ∧ vi = .int .i64 k ∧ v2 = .int .i64 r ∧ Hid (longL (fs.drop k) r = longL fs 0) ∧ Hid (Below W.heap.size W wr)) (fun _ vi _ => n - (intOf vi).toNat)
  case atStart => exact ⟨0, 0, by omega, rfl, rfl, Lib.hid rfl, Lib.hid (.refl _ _)⟩
  case round =>
    obtain ⟨k, r, hk, rfl, rfl, K1, K2⟩ := hrel
    by_cases hlt : k < n
    · have hkf : k < fs.length := by rw [← HN.out]; exact hlt
      obtain ⟨b, off, a, eA, hbb, c0, c1, hfn⟩ := (HF.out.step K2.out).at_ k hkf
      subst eA
      obtain ⟨C, fn, fc, S, sm, sd⟩ := a
      simp only at c0 c1
      obtain ⟨f, HFE⟩ : ∃ f, Hid (f = fs[k]) := ⟨_, Lib.hid rfl⟩
      rw [← HFE.out] at hfn
      have HFN := Lib.hid hfn
      have HFL := Lib.hid (show fn = f.code.length from hfn.1)
      have HLE := Lib.hid (show f.code.length ≤ 64 from HL.out f (by rw [HFE.out]; exact List.getElem_mem _))
      have K1' := Lib.hid ((longL_at (r := r) hkf).symm.trans K1.out)
      rw [← HFE.out] at K1'
      clear hfn hbb
      go_upto_region 4 with (fail)
      obtain ⟨V, HV⟩ : ∃ V, Hid (V = wr.alloc (.cells #[.slice C fn fc, .slice S sm sd] 30)) := ⟨_, Lib.hid rfl⟩
      have HBV := Lib.hid (show Below wr.heap.size wr V by rw [HV.out]; exact (Below.refl _ _).alloc (Nat.le_refl _) _)
      have HG := Lib.hid (gap_any (HT.out.step (K2.out.trans (HBV.out.mono K2.out.size))) (HFN.out.step HBV.out) (by rw [HFL.out]; have := HLE.out; omega))
      have HBW := Lib.hid (K2.out.trans (HBV.out.mono K2.out.size))
      obtain ⟨g, HGE⟩ : ∃ g, Hid (g = gapF f) := ⟨_, Lib.hid rfl⟩
      rw [show gapG fn (nxN f.code) (openB f.safe) = g by rw [HGE.out, HFL.out]; rfl, HV.out] at HG
      rw [← HGE.out] at K1'
      obtain ⟨gn, gi⟩ := g
      unfold twoOf at HG
      cases gi with
      | true =>
        have K1'' := Lib.hid (K1'.out.symm.trans (if_pos rfl))
        clear K1'
        go_wp2_with (go_at_call 9; refine HG.out.mono ?_; rintro e V1 ⟨rfl, hb1⟩; have HB1 := Lib.hid (show Below V.heap.size V V1 by rw [HV.out]; exact hb1); clear hb1)
        exact ⟨⟨k + 1, max r gn, by omega, by go_num, by rw [show (max (r : Int) (gn : Int)) = ((max r gn : Nat) : Int) by omega], Lib.hid K1''.out.symm, Lib.hid (HBW.out.trans (HB1.out.mono HBW.out.size))⟩, by simp [intOf]; omega⟩
      | false =>
        have K1'' := Lib.hid (K1'.out.symm.trans (if_neg (fun h => by cases h)))
        clear K1'
        go_wp2_with (go_at_call 9; refine HG.out.mono ?_; rintro e V1 ⟨rfl, hb1⟩; have HB1 := Lib.hid (show Below V.heap.size V V1 by rw [HV.out]; exact hb1); clear hb1)
        go_ret2
        rw [K1''.out]
        exact ⟨rfl, HB.out.trans ((HBW.out.trans (HB1.out.mono HBW.out.size)).mono HB.out.size)⟩
    · have HE := Lib.hid (show longL fs 0 = (r, true) by
        rw [← K1.out, List.drop_eq_nil_of_le (by have := HN.out; omega)]; rfl)
      go_wp2_with fail
      go_ret2
      rw [HE.out]
      exact ⟨rfl, HB.out.trans (K2.out.mono HB.out.size)⟩
set_option maxRecDepth 10000 in
set_option maxHeartbeats 4000000 in
theorem rlong_any {w : World} {A : Option Addr} {c : Nat} {fs : List Fn} (hf : FnsOk w w.heap.size A fs) (hl : ∀ f ∈ fs, f.code.length ≤ 64) (hm : fs.length ≤ 16) :
    Calls Tryd.prog 12 #[.agg #[.slice A fs.length c]] w fun e w' => e = .returned (twoOf (longL fs 0)) ∧ Below w.heap.size w w' := by
  obtain ⟨W, HW⟩ : ∃ W, Hid (W = w.alloc (.cells #[.slice A fs.length c] 24)) := ⟨_, Lib.hid rfl⟩
  obtain ⟨pb, HPB⟩ : ∃ q, Hid (q = w.heap.size) := ⟨_, Lib.hid rfl⟩
  have hbw : Below w.heap.size w W := by rw [HW.out]; exact (Below.refl _ w).alloc (Nat.le_refl _) _
  have HB := Lib.hid hbw
  have HP := Lib.hid (show Blk W pb 24 #[.slice A fs.length c] by rw [HW.out, HPB.out]; exact Blk.new w _ _)
  have HF := Lib.hid (hf.step hbw)
  have HL := Lib.hid hl
  obtain ⟨n, HN⟩ : ∃ n, Hid (n = fs.length) := ⟨_, Lib.hid rfl⟩
  rw [← HN.out] at HW HP hm ⊢
  have p0 : W.cell? ⟨pb, 0, none⟩ = some (.slice A n c) := (HP.out.cell 0).trans rfl
  have hw := HW.out
  have hpb := HPB.out
  clear hf hbw hl
  go_enter Tryd.func12, Tryd.ntmps12
  go_upto_region 1 with (fail)
  rw [← hw, ← hpb]
  clear hw hpb
  go_upto_region 3 with (fail)
  clear p0
  go_loopw [4, 5] (fun v2 vi wr => ∃ k r : Nat, k ≤ n ∧ vi = .int .i64 k ∧ v2 = .int .i64 r ∧ Hid (longL (fs.drop k) r = longL fs 0) ∧ Hid (Below W.heap.size W wr)) (fun _ vi _ => n - (intOf vi).toNat)
  case atStart => exact ⟨0, 0, by omega, rfl, rfl, Lib.hid rfl, Lib.hid (.refl _ _)⟩
  case round =>
    obtain ⟨k, r, hk, rfl, rfl, K1, K2⟩ := hrel
    have p0 : wr.cell? ⟨pb, 0, none⟩ = some (.slice A n c) := ((HP.out.below K2.out HP.out.lt).cell 0).trans rfl
    by_cases hlt : k < n
    · have hkf : k < fs.length := by rw [← HN.out]; exact hlt
      obtain ⟨b, off, a, eA, hbb, c0, c1, hfn⟩ := (HF.out.step K2.out).at_ k hkf
      subst eA
      obtain ⟨C, fn, fc, S, sm, sd⟩ := a
      simp only at c0 c1
      obtain ⟨f, HFE⟩ : ∃ f, Hid (f = fs[k]) := ⟨_, Lib.hid rfl⟩
      rw [← HFE.out] at hfn
      have HFN := Lib.hid hfn
      have HFL := Lib.hid (show fn = f.code.length from hfn.1)
      have HLE := Lib.hid (show f.code.length ≤ 64 from HL.out f (by rw [HFE.out]; exact List.getElem_mem _))
      have K1' := Lib.hid ((longL_at (r := r) hkf).symm.trans K1.out)
      rw [← HFE.out] at K1'
      clear hfn hbb
      have HG := Lib.hid (rgap_any HFN.out (by rw [HFL.out]; have := HLE.out; omega))
      obtain ⟨g, HGE⟩ : ∃ g, Hid (g = gapF f) := ⟨_, Lib.hid rfl⟩
      rw [show gapG fn (nxN f.code) (openB f.safe) = g by rw [HGE.out, HFL.out]; rfl] at HG
      rw [← HGE.out] at K1'
      obtain ⟨gn, gi⟩ := g
      unfold twoOf at HG
      cases gi with
      | true =>
        have K1'' := Lib.hid (K1'.out.symm.trans (if_pos rfl))
        clear K1'
        go_wp2_with (go_at_call 10; refine HG.out.mono ?_; rintro e V1 ⟨rfl, hb1⟩; have HB1 := Lib.hid hb1; clear hb1)
        exact ⟨⟨k + 1, max r gn, by omega, by go_num, by rw [show (max (r : Int) (gn : Int)) = ((max r gn : Nat) : Int) by omega], Lib.hid K1''.out.symm, Lib.hid (K2.out.trans (HB1.out.mono K2.out.size))⟩, by simp [intOf]; omega⟩
      | false =>
        have K1'' := Lib.hid (K1'.out.symm.trans (if_neg (fun h => by cases h)))
        clear K1'
        go_wp2_with (go_at_call 10; refine HG.out.mono ?_; rintro e V1 ⟨rfl, hb1⟩; have HB1 := Lib.hid hb1; clear hb1)
        go_ret2
        rw [K1''.out]
        exact ⟨rfl, HB.out.trans ((K2.out.trans (HB1.out.mono K2.out.size)).mono HB.out.size)⟩
    · have HE := Lib.hid (show longL fs 0 = (r, true) by
        rw [← K1.out, List.drop_eq_nil_of_le (by have := HN.out; omega)]; rfl)
      go_wp2_with fail
      go_ret2
      rw [HE.out]
      exact ⟨rfl, HB.out.trans (K2.out.mono HB.out.size)⟩
set_option maxHeartbeats 1000000 in
theorem bound_any {w : World} {A : Option Addr} {c : Nat} {fs : List Fn} (hT : Tab w) (hf : FnsOk w w.heap.size A fs) (hl : ∀ f ∈ fs, f.code.length ≤ 64) (hm : fs.length ≤ 16) :
    Calls Tryd.prog 13 #[.agg #[.slice A fs.length c]] w fun e w' => e = .returned (twoOf (if (longL fs 0).2 = true then (17 * ((longL fs 0).1 + 1), true) else (0, false))) ∧ Below w.heap.size w w' := by
  obtain ⟨W, HW⟩ : ∃ W, Hid (W = w.alloc (.cells #[.slice A fs.length c] 24)) := ⟨_, Lib.hid rfl⟩
  have hbw : Below w.heap.size w W := by rw [HW.out]; exact (Below.refl _ w).alloc (Nat.le_refl _) _
  have HB := Lib.hid hbw
  have HG := Lib.hid (long_any (c := c) (hT.step hbw) (hf.step hbw) hl hm)
  have hle := longL_le hl 0 (by decide)
  obtain ⟨g, HGE⟩ : ∃ g, Hid (g = longL fs 0) := ⟨_, Lib.hid rfl⟩
  rw [← HGE.out] at HG hle
  rw [← HGE.out]
  obtain ⟨gn, gi⟩ := g
  obtain ⟨n, HN⟩ : ∃ n, Hid (n = fs.length) := ⟨_, Lib.hid rfl⟩
  rw [← HN.out] at HW hm HG ⊢
  rw [HW.out] at HG
  unfold twoOf at HG
  simp only at hle
  clear hf hT hl hbw
  cases gi with
  | true =>
    have HE := Lib.hid (show (if (((gn, true) : Nat × Bool)).2 = true then (17 * (gn + 1), true) else (0, false)) = (17 * (gn + 1), true) from if_pos rfl)
    rw [HE.out]
    clear HE
    go_enter Tryd.func13, Tryd.ntmps13
    go_wp2_with (go_at_call 11; refine HG.out.mono ?_; rintro e V1 ⟨rfl, hb1⟩; have HB1 := Lib.hid (show Below W.heap.size W V1 by rw [HW.out]; exact hb1); clear hb1)
    go_ret2
    exact ⟨rfl, HB.out.trans (HB1.out.mono HB.out.size)⟩
  | false =>
    have HE := Lib.hid (show (if (((gn, false) : Nat × Bool)).2 = true then (17 * (gn + 1), true) else (0, false)) = (0, false) from if_neg (fun h => by cases h))
    rw [HE.out]
    clear HE
    go_enter Tryd.func13, Tryd.ntmps13
    go_wp2_with (go_at_call 11; refine HG.out.mono ?_; rintro e V1 ⟨rfl, hb1⟩; have HB1 := Lib.hid (show Below W.heap.size W V1 by rw [HW.out]; exact hb1); clear hb1)
    go_ret2
    exact ⟨rfl, HB.out.trans (HB1.out.mono HB.out.size)⟩
end Go.Proofs.YtdpacdmaadodiaaDoor

/-
  Chapter 8: the law FlowGaps returns true, whatever is handed in. Condition: the table isa.rows.
-/
import Derived.Test.YtdpacdmaadodiaaDoorLng8
import Derived.Test.YtdpacdmaadodiaaDoorAlv8
namespace Go.Proofs.YtdpacdmaadodiaaDoor
open Go.RowKit
set_option maxRecDepth 10000 in
set_option maxHeartbeats 4000000 in
theorem gaps08 (A : Option Addr) (c : Nat) (fs : List Fn) (w : World) (hT : Tab w) (hm : fs.length ≤ maxLen) (hf : FnsOk w w.heap.size A fs) :
    Calls Tryd.prog 4 #[.agg #[.slice A fs.length c]] w fun e w' => e = .returned (.bool true) ∧ Below w.heap.size w w' := by
  obtain ⟨W, HW⟩ : ∃ W, Hid (W = w.alloc (.cells #[.slice A fs.length c] 24)) := ⟨_, Lib.hid rfl⟩
  have HB := Lib.hid (show Below w.heap.size w W by rw [HW.out]; exact (Below.refl _ _).alloc (Nat.le_refl _) _)
  obtain ⟨pb, HPB⟩ : ∃ q, Hid (q = w.heap.size) := ⟨_, Lib.hid rfl⟩
  have HP := Lib.hid (show Blk W pb 24 #[.slice A fs.length c] by rw [HW.out, HPB.out]; exact Blk.new w _ _)
  have HC := Lib.hid (light8_any A c fs W hm (hf.step HB.out))
  have HF := Lib.hid (hf.step HB.out)
  have HT := Lib.hid (hT.step HB.out)
  obtain ⟨lp, HLP⟩ : ∃ b, Hid (b = light8 fs) := ⟨_, Lib.hid rfl⟩
  rw [← HLP.out] at HC
  have HAL := Lib.hid (fun (V : World) (h : Below W.heap.size W V) => alive08 V (HT.out.step h))
  have HLONG := Lib.hid (fun (hl : light8 fs = true) (V : World) (h : Below W.heap.size W V) => long_any (c := c) (HT.out.step h) (HF.out.step h) (fun f hf => by obtain ⟨i, hi, rfl⟩ := List.getElem_of_mem hf; exact ((light8_out hl).2 i hi).1) (light8_out hl).1)
  have HRLONG := Lib.hid (fun (hl : light8 fs = true) (V : World) (h : Below W.heap.size W V) => rlong_any (c := c) (HF.out.step h) (fun f hf => by obtain ⟨i, hi, rfl⟩ := List.getElem_of_mem hf; exact ((light8_out hl).2 i hi).1) (light8_out hl).1)
  have HBOUND := Lib.hid (fun (hl : light8 fs = true) (V : World) (h : Below W.heap.size W V) => bound_any (c := c) (HT.out.step h) (HF.out.step h) (fun f hf => by obtain ⟨i, hi, rfl⟩ := List.getElem_of_mem hf; exact ((light8_out hl).2 i hi).1) (light8_out hl).1)
  have HLE := Lib.hid (fun (hl : light8 fs = true) => longL_le (fs := fs) (fun f hf => by obtain ⟨i, hi, rfl⟩ := List.getElem_of_mem hf; exact ((light8_out hl).2 i hi).1) 0 (by decide))
  have HL8 := Lib.hid (fun (hl : light8 fs = true) (k : Nat) (hk : k < fs.length) => ((light8_out hl).2 k hk).1)
  have H16 := Lib.hid (fun (hl : light8 fs = true) => (light8_out hl).1)
  obtain ⟨n, HN⟩ : ∃ n, Hid (n = fs.length) := ⟨_, Lib.hid rfl⟩
  rw [← HN.out] at HC HP HW HLONG HRLONG HBOUND H16 ⊢
  clear hT hf
  have p0 : W.cell? ⟨pb, 0, none⟩ = some (.slice A n c) := HP.out.cell 0
  have hpb := HPB.out
  cases lp with
  | false =>
    clear hm
    go_enter Tryd.func4, Tryd.ntmps4
    go_upto_region 1 with (fail)
    rw [← HW.out, ← hpb]
    clear hpb
    go_wp2_with (first | (go_at_call 7; refine HC.out.mono ?_; rintro e W1 ⟨rfl, hb1⟩; have HB1 := Lib.hid hb1; clear hb1) | (go_at_call 8; refine (HAL.out _ HB1.out).mono ?_; rintro e W2 ⟨rfl, hb2⟩; have HB2 := Lib.hid hb2; clear hb2))
    go_ret
    exact ⟨rfl, HB.out.trans ((HB1.out.trans (HB2.out.mono HB1.out.size)).mono HB.out.size)⟩
  | true =>
    have hlt8 := HLP.out.symm
    have HLONG := Lib.hid (HLONG.out hlt8)
    have HRLONG := Lib.hid (HRLONG.out hlt8)
    have HBOUND := Lib.hid (HBOUND.out hlt8)
    have HLE := Lib.hid (HLE.out hlt8)
    have HL8 := Lib.hid (HL8.out hlt8)
    have h16 := H16.out hlt8
    obtain ⟨lg, HLG⟩ : ∃ g, Hid (g = longL fs 0) := ⟨_, Lib.hid rfl⟩
    simp only [← HLG.out] at HLONG HRLONG HBOUND HLE
    clear hlt8 hm H16
    go_enter Tryd.func4, Tryd.ntmps4
    go_upto_region 1 with (fail)
    rw [← HW.out, ← hpb]
    clear hpb
    go_upto_region 4 with (go_at_call 7; refine HC.out.mono ?_; rintro e W1 ⟨rfl, hb1⟩; have HB1 := Lib.hid hb1; clear hb1)
    clear p0
    go_loopw [3] (fun vi wr => ∃ k : Nat, k ≤ n ∧ vi = .int .i64 k ∧ Hid (Below W.heap.size W wr)) (fun vi _ => n - (intOf vi).toNat)
    case atStart => exact ⟨0, by omega, rfl, HB1⟩
    case round =>
      obtain ⟨k, hk, rfl, K1⟩ := hrel
      have p0 : wr.cell? ⟨pb, 0, none⟩ = some (.slice A n c) := ((HP.out.below K1.out HP.out.lt).cell 0).trans rfl
      by_cases hlt : k < n
      · have hkf : k < fs.length := by rw [← HN.out]; exact hlt
        obtain ⟨b, off, a, eA, hbb, c0, c1, hfn⟩ := (HF.out.step K1.out).at_ k hkf
        subst eA
        obtain ⟨C, fn, fc, S, sm, sd⟩ := a
        simp only at c0 c1
        obtain ⟨f, HFE⟩ : ∃ f, Hid (f = fs[k]) := ⟨_, Lib.hid rfl⟩
        rw [← HFE.out] at hfn
        have HFN := Lib.hid hfn
        have HFL := Lib.hid (show fn = f.code.length from hfn.1)
        have hfl : fn ≤ 70 := by have h1 := HL8.out k hkf; rw [← HFE.out] at h1; have h2 := HFL.out; omega
        have HG := Lib.hid (gap_any (HT.out.step K1.out) hfn hfl)
        have HRG := Lib.hid (fun (V : World) (h : Below wr.heap.size wr V) => rgap_any (HFN.out.step h) hfl)
        obtain ⟨g, HGE⟩ : ∃ g, Hid (g = gapG fn (nxN f.code) (openB f.safe)) := ⟨_, Lib.hid rfl⟩
        simp only [← HGE.out] at HG HRG
        obtain ⟨gn, gi⟩ := g
        unfold twoOf at HG HRG
        have HC0 := Lib.hid (fun (V : World) (h : Below wr.heap.size wr V) => (h.cell (p := ⟨b, off + k * 2, none⟩) hbb).trans c0)
        have HC1 := Lib.hid (fun (V : World) (h : Below wr.heap.size wr V) => (h.cell (p := ⟨b, off + k * 2 + 1, none⟩) hbb).trans c1)
        have HPV := Lib.hid (fun (V : World) (h : Below wr.heap.size wr V) => (show V.cell? ⟨pb, 0, none⟩ = some (.slice (some ⟨b, off, none⟩) n c) from ((HP.out.below (K1.out.trans (h.mono K1.out.size)) HP.out.lt).cell 0).trans rfl))
        clear hfn hbb
        go_upto_region 7 with (go_at_call 9; refine HG.out.mono ?_; rintro e V1 ⟨rfl, hb1⟩; have HBa := Lib.hid hb1; clear hb1)
        have p1 := HPV.out V1 HBa.out
        have d0 := HC0.out V1 HBa.out
        have d1 := HC1.out V1 HBa.out
        clear c0 c1 p0
        cases gi with
        | true =>
          go_wp2_with (go_at_call 10; refine (HRG.out _ HBa.out).mono ?_; rintro e V2 ⟨rfl, hb2⟩; have HBb := Lib.hid hb2; clear hb2)
          exact ⟨⟨k + 1, by omega, by go_num, Lib.hid (K1.out.trans ((HBa.out.trans (HBb.out.mono HBa.out.size)).mono K1.out.size))⟩, by simp [intOf]; omega⟩
        | false =>
          go_wp2_with (go_at_call 10; refine (HRG.out _ HBa.out).mono ?_; rintro e V2 ⟨rfl, hb2⟩; have HBb := Lib.hid hb2; clear hb2)
          exact ⟨⟨k + 1, by omega, by go_num, Lib.hid (K1.out.trans ((HBa.out.trans (HBb.out.mono HBa.out.size)).mono K1.out.size))⟩, by simp [intOf]; omega⟩
      · have hle := HLE.out
        obtain ⟨ln, li⟩ := lg
        simp only at hle
        have PV := Lib.hid (fun (V : World) (h : Below W.heap.size W V) => (show V.cell? ⟨pb, 0, none⟩ = some (.slice A n c) from ((HP.out.below h HP.out.lt).cell 0).trans rfl))
        unfold twoOf at HLONG HRLONG HBOUND
        cases li with
        | true =>
          simp only [if_true] at HBOUND
          go_wp2_with (first | (go_at_call 11; refine (HLONG.out _ K1.out).mono ?_; rintro e V1 ⟨rfl, hb1⟩; have HV1 := Lib.hid (K1.out.trans (hb1.mono K1.out.size)); have p1 := PV.out V1 HV1.out; clear hb1) | (go_at_call 12; refine (HRLONG.out _ HV1.out).mono ?_; rintro e V2 ⟨rfl, hb2⟩; have HV2 := Lib.hid (HV1.out.trans (hb2.mono HV1.out.size)); have p2 := PV.out V2 HV2.out; clear hb2) | (go_at_call 13; refine (HBOUND.out _ HV2.out).mono ?_; rintro e V3 ⟨rfl, hb3⟩; have HV3 := Lib.hid (HV2.out.trans (hb3.mono HV2.out.size)); clear hb3) | (go_at_call 8; refine (HAL.out _ HV3.out).mono ?_; rintro e V4 ⟨rfl, hb4⟩; have HB4 := Lib.hid hb4; clear hb4))
          go_ret
          exact ⟨rfl, HB.out.trans ((HV3.out.trans (HB4.out.mono HV3.out.size)).mono HB.out.size)⟩
        | false =>
          simp only [Bool.false_eq_true, if_false] at HBOUND
          go_wp2_with (first | (go_at_call 11; refine (HLONG.out _ K1.out).mono ?_; rintro e V1 ⟨rfl, hb1⟩; have HV1 := Lib.hid (K1.out.trans (hb1.mono K1.out.size)); have p1 := PV.out V1 HV1.out; clear hb1) | (go_at_call 12; refine (HRLONG.out _ HV1.out).mono ?_; rintro e V2 ⟨rfl, hb2⟩; have HV2 := Lib.hid (HV1.out.trans (hb2.mono HV1.out.size)); have p2 := PV.out V2 HV2.out; clear hb2) | (go_at_call 13; refine (HBOUND.out _ HV2.out).mono ?_; rintro e V3 ⟨rfl, hb3⟩; have HV3 := Lib.hid (HV2.out.trans (hb3.mono HV2.out.size)); clear hb3) | (go_at_call 8; refine (HAL.out _ HV3.out).mono ?_; rintro e V4 ⟨rfl, hb4⟩; have HB4 := Lib.hid hb4; clear hb4))
          go_ret
          exact ⟨rfl, HB.out.trans ((HV3.out.trans (HB4.out.mono HV3.out.size)).mono HB.out.size)⟩
end Go.Proofs.YtdpacdmaadodiaaDoor

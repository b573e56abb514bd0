/-
  Proved: the card of MarkGaps: for every program and number the law returns true. Conditions: the table isa.rows is laid as the program's text lays it (the card ties it).
-/
import Derived.Test.YtfgaonkoaolffaaDoorGap8
import Derived.Test.YtfgaonkoaolffaaDoorPrg39
import Derived.Test.YtfgaonkoaolffaaDoorLight9
import Derived.Test.YtfgaonkoaolffaaDoorSame7
import Derived.Test.YtfgaonkoaolffaaDoorFrameD
namespace Go.Proofs.YtfgaonkoaolffaaDoor
open Go.RowKit
def gapF (f : Fn) : Nat × Bool := gapG f.code.length (nxN f.code) (openB f.safe)
/-- The greatest gap, or that one has no end. -/
def longL : List Fn → Nat → Nat × Bool
  | [], a => (a, true)
  | f :: fs, a => if (gapF f).2 = true then longL fs (max a (gapF f).1) else (0, false)
theorem longL_at {fs : List Fn} {k r : Nat} (hk : k < fs.length) : longL (fs.drop k) r = if (gapF fs[k]).2 = true then longL (fs.drop (k + 1)) (max r (gapF fs[k]).1) else (0, false) := by
  rw [List.drop_eq_getElem_cons hk]
  rfl
theorem longL_le {fs : List Fn} (h : ∀ f ∈ fs, f.code.length ≤ 64) (a : Nat) (ha : a ≤ 64) : (longL fs a).1 ≤ 64 := by
  induction fs generalizing a with
  | nil => exact ha
  | cons f fs ih =>
    unfold longL
    by_cases hg : (gapF f).2 = true
    · rw [if_pos hg]
      have h1 := gap_lt (n := f.code.length) (nx := nxN f.code) (op := openB f.safe) hg
      have h2 := h f (by simp)
      have h3 : (gapF f).1 ≤ 64 := Nat.le_trans h1 h2
      exact ih (fun g hg => h g (by simp [hg])) _ (by omega)
    · rw [if_neg hg]; exact Nat.zero_le _
set_option maxRecDepth 10000 in
set_option maxHeartbeats 4000000 in
theorem long_any {w : World} {A : Option Addr} {c : Nat} {fs : List Fn} (hT : Tab w) (hf : FnsOk w w.heap.size A fs) (hl : ∀ f ∈ fs, f.code.length ≤ 64) (hm : fs.length ≤ 16) :
    Calls Tryd.prog 11 #[.agg #[.slice A fs.length c]] w fun e w' => e = .returned (twoOf (longL fs 0)) ∧ Below w.heap.size w w' := by
  obtain ⟨W, HW⟩ : ∃ W, Hid (W = w.alloc (.cells #[.slice A fs.length c] 24)) := ⟨_, Lib.hid rfl⟩
  obtain ⟨pb, HPB⟩ : ∃ q, Hid (q = w.heap.size) := ⟨_, Lib.hid rfl⟩
  have hbw : Below w.heap.size w W := by rw [HW.out]; exact (Below.refl _ w).alloc (Nat.le_refl _) _
  have HB := Lib.hid hbw
  have HP := Lib.hid (show Blk W pb 24 #[.slice A fs.length c] by rw [HW.out, HPB.out]; exact Blk.new w _ _)
  have HF := Lib.hid (hf.step hbw)
  have HT := Lib.hid (hT.step hbw)
  have HL := Lib.hid hl
  obtain ⟨n, HN⟩ : ∃ n, Hid (n = fs.length) := ⟨_, Lib.hid rfl⟩
  rw [← HN.out] at HW HP hm ⊢
  have p0 : W.cell? ⟨pb, 0, none⟩ = some (.slice A n c) := (HP.out.cell 0).trans rfl
  have hw := HW.out
  have hpb := HPB.out
  clear hf hT hbw hl
  go_enter Tryd.func11, Tryd.ntmps11
  go_upto_region 1 with (fail)
  rw [← hw, ← hpb]
  clear hw hpb
  go_upto_region 2 with (fail)
  clear p0
  go_loopw [2, 11] (fun v2 vi wr => ∃ k r : Nat, k ≤ n ∧ vi = .int .i64 k ∧ v2 = .int .i64 r ∧ Hid (longL (fs.drop k) r = longL fs 0) ∧ Hid (Below W.heap.size W wr)) (fun _ vi _ => n - (intOf vi).toNat)
  case atStart => exact ⟨0, 0, by omega, rfl, rfl, Lib.hid rfl, Lib.hid (.refl _ _)⟩
  case round =>
    obtain ⟨k, r, hk, rfl, rfl, K1, K2⟩ := hrel
    by_cases hlt : k < n
    · have hkf : k < fs.length := by rw [← HN.out]; exact hlt
      obtain ⟨b, off, a, eA, hbb, c0, c1, hfn⟩ := (HF.out.step K2.out).at_ k hkf
      subst eA
      obtain ⟨C, fn, fc, S, sm, sd⟩ := a
      simp only at c0 c1
      obtain ⟨f, HFE⟩ : ∃ f, Hid (f = fs[k]) := ⟨_, Lib.hid rfl⟩
      rw [← HFE.out] at hfn
      have HFN := Lib.hid hfn
      have HFL := Lib.hid (show fn = f.code.length from hfn.1)
      have HLE := Lib.hid (show f.code.length ≤ 64 from HL.out f (by rw [HFE.out]; exact List.getElem_mem _))
      have K1' := Lib.hid ((longL_at (r := r) hkf).symm.trans K1.out)
      rw [← HFE.out] at K1'
      clear hfn hbb
      go_upto_region 4 with (fail)
      obtain ⟨V, HV⟩ : ∃ V, Hid (V = wr.alloc (.cells #[.slice C fn fc, .slice S sm sd] 39)) := ⟨_, Lib.hid rfl⟩
      have HBV := Lib.hid (show Below wr.heap.size wr V by rw [HV.out]; exact (Below.refl _ _).alloc (Nat.le_refl _) _)
      have HG := Lib.hid (gap_any (HT.out.step (K2.out.trans (HBV.out.mono K2.out.size))) (HFN.out.step HBV.out) (by rw [HFL.out]; have := HLE.out; omega))
      have HBW := Lib.hid (K2.out.trans (HBV.out.mono K2.out.size))
      obtain ⟨g, HGE⟩ : ∃ g, Hid (g = gapF f) := ⟨_, Lib.hid rfl⟩
      rw [show gapG fn (nxN f.code) (openB f.safe) = g by rw [HGE.out, HFL.out]; rfl, HV.out] at HG
      rw [← HGE.out] at K1'
      obtain ⟨gn, gi⟩ := g
      unfold twoOf at HG
      cases gi with
      | true =>
        have K1'' := Lib.hid (K1'.out.symm.trans (if_pos rfl))
        clear K1'
        go_wp2_with (go_at_call 17; refine HG.out.mono ?_; rintro e V1 ⟨rfl, hb1⟩; have HB1 := Lib.hid (show Below V.heap.size V V1 by rw [HV.out]; exact hb1); clear hb1)
        exact ⟨⟨k + 1, max r gn, by omega, by go_num, by rw [show (max (r : Int) (gn : Int)) = ((max r gn : Nat) : Int) by omega], Lib.hid K1''.out.symm, Lib.hid (HBW.out.trans (HB1.out.mono HBW.out.size))⟩, by simp [intOf]; omega⟩
      | false =>
        have K1'' := Lib.hid (K1'.out.symm.trans (if_neg (fun h => by cases h)))
        clear K1'
        go_wp2_with (go_at_call 17; refine HG.out.mono ?_; rintro e V1 ⟨rfl, hb1⟩; have HB1 := Lib.hid (show Below V.heap.size V V1 by rw [HV.out]; exact hb1); clear hb1)
        go_ret2
        rw [K1''.out]
        exact ⟨rfl, HB.out.trans ((HBW.out.trans (HB1.out.mono HBW.out.size)).mono HB.out.size)⟩
    · have HE := Lib.hid (show longL fs 0 = (r, true) by
        rw [← K1.out, List.drop_eq_nil_of_le (by have := HN.out; omega)]; rfl)
      go_wp2_with fail
      go_ret2
      rw [HE.out]
      exact ⟨rfl, HB.out.trans (K2.out.mono HB.out.size)⟩
end Go.Proofs.YtfgaonkoaolffaaDoor
namespace Go.Proofs.YtfgaonkoaolffaaDoor
open Go.RowKit
def fnFour : Fn := ⟨[⟨0, 0, 0, 0, 0⟩, ⟨0, 0, 0, 0, 0⟩, ⟨0, 0, 0, 0, 0⟩, ⟨14, 0, 0, 0, 0⟩], []⟩
theorem fn_lit9 {w : World} {B g : Nat} {cs : Array Value} (l : List Ins) (h : Blk w g 43 cs) (hg : g < B) (hl : l.length ≤ 70) (hc : cs.toList = l.flatMap insVals) (hi : ∀ i ∈ l, InsOk i) : FnOk w B ⟨some ⟨g, 0, none⟩, l.length, l.length, none, 0, 0⟩ ⟨l, []⟩ :=
  ⟨rfl, rfl, by rw [← hc]; exact row_of_blk h hg, .nil, by simp only [maxLen]; omega, by simp [maxLen], hi⟩
set_option maxRecDepth 10000 in
set_option maxHeartbeats 4000000 in
theorem alive39 (w : World) (hT : Tab w) : Calls Tryd.prog 6 #[] w fun e w' => e = .returned (.bool true) ∧ Below w.heap.size w w' := by
  have E1 := Lib.hid (show (markF 1 fnFour).safe = [false, false, true, false] by decide +kernel)
  have E2 := Lib.hid (show moreF 1 fnFour = 1 by decide +kernel)
  obtain ⟨W, HW⟩ : ∃ W, Hid (W = w.alloc (.cells #[.int .i64 0, .int .i64 0, .int .i64 0, .int .i64 0, .int .i64 0, .int .i64 0, .int .i64 0, .int .i64 0, .int .i64 0, .int .i64 0, .int .i64 0, .int .i64 0, .int .i64 0, .int .i64 0, .int .i64 0, .int .i64 14, .int .i64 0, .int .i64 0, .int .i64 0, .int .i64 0] 43)) := ⟨_, Lib.hid rfl⟩
  have hbw : Below w.heap.size w W := by rw [HW.out]; exact (Below.refl _ _).alloc (Nat.le_refl _) _
  have b1 : Blk W w.heap.size 43 #[.int .i64 0, .int .i64 0, .int .i64 0, .int .i64 0, .int .i64 0, .int .i64 0, .int .i64 0, .int .i64 0, .int .i64 0, .int .i64 0, .int .i64 0, .int .i64 0, .int .i64 0, .int .i64 0, .int .i64 0, .int .i64 14, .int .i64 0, .int .i64 0, .int .i64 0, .int .i64 0] := by rw [HW.out]; exact Blk.new w _ _
  have hok : ∀ i ∈ fnFour.code, InsOk i := by
    intro i hi
    simp only [fnFour, List.mem_cons, List.not_mem_nil, or_false] at hi
    rcases hi with rfl | rfl | rfl | rfl <;> simp [InsOk, I64]
  have hfu := func_any 1 (hT.step hbw) (fn_lit9 fnFour.code b1 b1.lt (by decide) rfl hok) (by decide) (by decide)
  rw [show (max (1 : Int) 0).toNat = 1 from rfl, show (⟨fnFour.code, []⟩ : Fn) = fnFour from rfl, E2.out, HW.out] at hfu
  have HFU := Lib.hid hfu
  have HB := Lib.hid hbw
  clear hT hbw b1 hok hfu
  go_enter Tryd.func6, Tryd.ntmps6
  go_upto_region 2 with (go_at_call 12; refine HFU.out.mono ?_; rintro e V ⟨a', rfl, hfs, hb⟩; have HFS := Lib.hid hfs; have HBV := Lib.hid (show Below W.heap.size W V by rw [HW.out]; exact hb); clear hfs hb)
  obtain ⟨k1, k2, k3, k4, k5⟩ := HFS.out
  have hm : a'.m = 4 := by rw [k2, E1.out]; rfl
  have hrow : Row V V.heap.size a'.S (boolVals [false, false, true, false]) := by rw [← E1.out]; exact k4.row (fun _ hb => hb.2)
  obtain ⟨b, off, eS, hb, hc⟩ := hrow.at_ (k := 0) (by decide)
  obtain ⟨AC, an, ac, AS, am, ad⟩ := a'
  simp only at eS hm
  subst eS
  subst hm
  obtain ⟨X, HX⟩ : ∃ X, Hid (X = V.alloc (.cells #[.slice AC an ac, .slice (some ⟨b, off, none⟩) 4 ad] 39)) := ⟨_, Lib.hid rfl⟩
  have HBX := Lib.hid (show Below V.heap.size V X by rw [HX.out]; exact (Below.refl _ _).alloc (Nat.le_refl _) _)
  have HNB := Lib.hid (show Blk X V.heap.size 39 #[.slice AC an ac, .slice (some ⟨b, off, none⟩) 4 ad] by rw [HX.out]; exact Blk.new V _ _)
  rw [← HX.out]
  have r1 : X.cell? ⟨V.heap.size, 1, none⟩ = some (.slice (some ⟨b, off, none⟩) 4 ad) := (HNB.out.cell 1).trans rfl
  have c1 : X.cell? ⟨b, off + 1, none⟩ = some (.bool false) := (HBX.out.cell hb).trans (hc 1 _ rfl)
  have c2 : X.cell? ⟨b, off + 2, none⟩ = some (.bool true) := (HBX.out.cell hb).trans (hc 2 _ rfl)
  have c3 : X.cell? ⟨b, off + 3, none⟩ = some (.bool false) := (HBX.out.cell hb).trans (hc 3 _ rfl)
  clear k1 k2 k3 k4 k5 hb hc hrow HFS HFU
  go_wp2_with fail
  go_ret
  have h1 := HB.out.trans (HBV.out.mono HB.out.size)
  exact ⟨rfl, h1.trans (HBX.out.mono h1.size)⟩
theorem prog_ok {A : Option Addr} {c : Nat} {fs : List Fn} {most : Int} {w : World} {go : FuncId} (hc : (checkP fs).2.2 = 0) (h : Calls Tryd.prog go #[.agg #[.slice A fs.length c], .int .i64 most] w (ProgOut w (max most 0).toNat fs)) :
    Calls Tryd.prog go #[.agg #[.slice A fs.length c], .int .i64 most] w fun e w' => ∃ G cG, e = .returned (.tuple #[.agg #[.slice G fs.length cG], .int .i64 (allM (max most 0).toNat fs), .int .i64 0]) ∧ FnsOk w' w'.heap.size G (markP (max most 0).toNat fs) ∧ Below w.heap.size w w' :=
  h.mono fun e w' ⟨hb, h⟩ => by
    rcases h with ⟨h1, _⟩ | ⟨_, G, cG, h2, h3⟩
    · exact absurd hc h1
    · exact ⟨G, cG, h2, h3, hb⟩
theorem prog_bad {A : Option Addr} {c : Nat} {fs : List Fn} {most : Int} {w : World} {go : FuncId} (hc : (checkP fs).2.2 ≠ 0) (h : Calls Tryd.prog go #[.agg #[.slice A fs.length c], .int .i64 most] w (ProgOut w (max most 0).toNat fs)) :
    Calls Tryd.prog go #[.agg #[.slice A fs.length c], .int .i64 most] w fun e w' => e = .returned (.tuple #[.agg #[.slice none 0 0], .int .i64 0, .int .i64 1]) ∧ Below w.heap.size w w' :=
  h.mono fun e w' ⟨hb, h⟩ => by
    rcases h with ⟨_, h2⟩ | ⟨h1, _⟩
    · exact ⟨h2, hb⟩
    · exact absurd h1 hc
theorem fns_nil (w : World) (B : Nat) (A : Option Addr) : FnsOk w B A [] := ⟨[], rfl, fun _ h => absurd h (Nat.not_lt_zero _), .nil⟩
end Go.Proofs.YtfgaonkoaolffaaDoor
namespace Go.Proofs.YtfgaonkoaolffaaDoor
open Go.RowKit
theorem long_mark (mx : Nat) (fs : List Fn) (a : Nat) : (longL (markP mx fs) a).2 = true ∧ (longL (markP mx fs) a).1 ≤ max a mx := by
  induction fs generalizing a with
  | nil => exact ⟨rfl, Nat.le_max_left _ _⟩
  | cons f fs ih =>
    have h := mark_gap mx f
    have hg : gapF (markF mx f) = gapG f.code.length (nxN f.code) (openB (markF mx f).safe) := rfl
    show (longL (markF mx f :: markP mx fs) a).2 = true ∧ (longL (markF mx f :: markP mx fs) a).1 ≤ max a mx
    unfold longL
    rw [hg, if_pos h.1]
    have h1 := ih (max a (gapG f.code.length (nxN f.code) (openB (markF mx f).safe)).1)
    exact ⟨h1.1, by have := h1.2; have := h.2; omega⟩
set_option maxRecDepth 10000 in
set_option maxHeartbeats 8000000 in
theorem gaps39 (A : Option Addr) (c : Nat) (fs : List Fn) (most : Int) (w : World) (hT : Tab w) (hm : fs.length ≤ maxLen) (hf : FnsOk w w.heap.size A fs) :
    Calls Tryd.prog 4 #[.agg #[.slice A fs.length c], .int .i64 most] w fun e w' => e = .returned (.bool true) ∧ Below w.heap.size w w' := by
  obtain ⟨W, HW⟩ : ∃ W, Hid (W = w.alloc (.cells #[.slice A fs.length c] 24)) := ⟨_, Lib.hid rfl⟩
  obtain ⟨pb, HPB⟩ : ∃ q, Hid (q = w.heap.size) := ⟨_, Lib.hid rfl⟩
  have hbw : Below w.heap.size w W := by rw [HW.out]; exact (Below.refl _ _).alloc (Nat.le_refl _) _
  have HB := Lib.hid hbw
  have HP := Lib.hid (show Blk W pb 24 #[.slice A fs.length c] by rw [HW.out, HPB.out]; exact Blk.new w _ _)
  have HT := Lib.hid (hT.step hbw)
  have HF := Lib.hid (hf.step hbw)
  have HC := Lib.hid (light_any A c fs W hm (hf.step hbw))
  obtain ⟨lp, HLP⟩ : ∃ b, Hid (b = lightP fs) := ⟨_, Lib.hid rfl⟩
  rw [← HLP.out] at HC
  have HAL := Lib.hid (fun (V : World) (h : Below W.heap.size W V) => alive39 V (HT.out.step h))
  have HPR := Lib.hid (fun (V : World) (h : Below W.heap.size W V) => prog_any A c fs most V (HT.out.step h) hm (HF.out.step h))
  have hpb := HPB.out
  have hmx : fs.length ≤ maxLen := hm
  clear hT hf hm hbw
  cases lp with
  | false =>
    obtain ⟨n, HN⟩ : ∃ n, Hid (n = fs.length) := ⟨_, Lib.hid rfl⟩
    rw [← HN.out] at HC HP HW ⊢
    have p0 : W.cell? ⟨pb, 0, none⟩ = some (.slice A n c) := HP.out.cell 0
    go_enter Tryd.func4, Tryd.ntmps4
    go_upto_region 1 with (fail)
    rw [← HW.out, ← hpb]
    clear hpb
    go_wp2_with (first | (go_at_call 5; refine HC.out.mono ?_; rintro e W1 ⟨rfl, hb1⟩; have HB1 := Lib.hid hb1; clear hb1) | (go_at_call 6; refine (HAL.out _ HB1.out).mono ?_; rintro e W2 ⟨rfl, hb2⟩; have HB2 := Lib.hid hb2; clear hb2))
    go_ret
    exact ⟨rfl, HB.out.trans ((HB1.out.trans (HB2.out.mono HB1.out.size)).mono HB.out.size)⟩
  | true =>
    by_cases hx : (checkP fs).2.2 = 0
    · have HPR := Lib.hid (fun (V : World) (h : Below W.heap.size W V) => prog_ok hx (HPR.out V h))
      obtain ⟨mx, HMX⟩ : ∃ k, Hid (k = (max most 0).toNat) := ⟨_, Lib.hid rfl⟩
      have HMI := Lib.hid (show max most 0 = (mx : Int) by rw [HMX.out]; omega)
      obtain ⟨gs, HGS⟩ : ∃ l, Hid (l = markP mx fs) := ⟨_, Lib.hid rfl⟩
      have HGL := Lib.hid (show gs.length = fs.length by rw [HGS.out]; simp [markP])
      obtain ⟨al, HAL2⟩ : ∃ x, Hid (x = allM mx fs) := ⟨_, Lib.hid rfl⟩
      simp only [← HMX.out, ← HAL2.out, ← HGS.out] at HPR
      have HCK := Lib.hid (show (checkP gs).2.2 = 0 by rw [HGS.out]; exact check_mark hx)
      obtain ⟨h16, hfew⟩ := check_few hx
      obtain ⟨-, -, hpar⟩ := check_parts hx
      have HEQ := Lib.hid (fun (i : Nat) (hi : i < fs.length) => (show fs[i].safe.length = fs[i].code.length by
        have h1 := hpar i hi
        unfold fnAt at h1
        rw [show fs.getD i noFn = fs[i] by simp [hi]] at h1
        exact (fn_ok_parts h1).2.2.1.symm))
      have HL64 := Lib.hid (show ∀ g ∈ gs, g.code.length ≤ 64 by
        intro g hg
        rw [HGS.out] at hg
        obtain ⟨f, hf, rfl⟩ := List.mem_map.1 hg
        obtain ⟨i, hi, rfl⟩ := List.getElem_of_mem hf
        exact (hfew i hi).1)
      have HUP := Lib.hid (fun (i k : Nat) (hi : i < fs.length) (hi' : i < gs.length) (hk : k < fs[i].safe.length) => (show (gs[i].safe.length = fs[i].safe.length) ∧ (fs[i].safe.getD k false = true → gs[i].safe.getD k false = true) by
        have e : gs[i] = markF mx fs[i] := by simp only [HGS.out, markP, List.getElem_map]
        rw [e]
        refine ⟨by rw [mark_len, HEQ.out i hi], fun h => mark_up mx fs[i] k (by rw [← HEQ.out i hi]; exact hk) h⟩))
      have HFEW := Lib.hid (fun (i : Nat) (hi : i < fs.length) => (hfew i hi).2)
      have hlm := long_mark mx fs 0
      rw [← HGS.out] at hlm
      obtain ⟨lg, HLG⟩ : ∃ g, Hid (g = longL gs 0) := ⟨_, Lib.hid rfl⟩
      rw [← HLG.out] at hlm
      obtain ⟨ln, li⟩ := lg
      obtain ⟨rfl, hln⟩ := hlm
      have HLN := Lib.hid (show ln ≤ mx by simpa using hln)
      have HRC := Lib.hid (fun (V : World) (G : Option Addr) (g : Nat) (h : FnsOk V V.heap.size G gs) => rcheckP_any G g gs V (by rw [HGL.out]; exact hmx) h)
      have HLO := Lib.hid (fun (V : World) (G : Option Addr) (g : Nat) (hV : Below W.heap.size W V) (h : FnsOk V V.heap.size G gs) => long_any (c := g) (HT.out.step hV) h HL64.out (by rw [HGL.out]; exact h16))
      have HP2 := Lib.hid (fun (V : World) (G : Option Addr) (g : Nat) (hV : Below W.heap.size W V) (h : FnsOk V V.heap.size G gs) => prog_ok HCK.out (prog_any G g gs most V (HT.out.step hV) (by rw [HGL.out]; exact hmx) h))
      have HSM := Lib.hid (fun (V : World) (G H : Option Addr) (g h : Nat) (ha : FnsOk V V.heap.size G gs) (hb : FnsOk V V.heap.size H gs) => same7_true G H g h gs V (by rw [HGL.out]; exact hmx) ha hb)
      have e1 : markP mx gs = gs := by rw [HGS.out]; exact markP_mark mx fs
      have e2 : allM mx gs = 0 := by rw [HGS.out]; exact all_again mx fs
      simp only [← HMX.out, e1, e2] at HP2
      simp only [← HLG.out] at HLO
      obtain ⟨ch, HCHE⟩ : ∃ x, Hid (x = checkP gs) := ⟨_, Lib.hid rfl⟩
      simp only [← HCHE.out] at HRC
      rw [← HCHE.out] at HCK
      obtain ⟨y0, y1, y2⟩ := ch
      simp only at HCK
      have hy2 : y2 = 0 := HCK.out
      subst hy2
      unfold tri at HRC
      unfold twoOf at HLO
      rw [HGL.out] at HRC HLO HP2 HSM
      obtain ⟨n, HN⟩ : ∃ n, Hid (n = fs.length) := ⟨_, Lib.hid rfl⟩
      rw [← HN.out] at HC HP HW HPR HRC HLO HP2 HSM h16 ⊢
      have p0 : W.cell? ⟨pb, 0, none⟩ = some (.slice A n c) := HP.out.cell 0
      have hlm' : decide ((ln : Int) ≤ max most 0) = true := decide_eq_true (by rw [HMI.out]; have := HLN.out; omega)
      clear hx hmx hfew hpar hln e1 e2
      go_enter Tryd.func4, Tryd.ntmps4
      go_upto_region 1 with (fail)
      rw [← HW.out, ← hpb]
      clear hpb
      go_upto_region 3 with (go_at_call 5; refine HC.out.mono ?_; rintro e W1 ⟨rfl, hb1⟩; have HB1 := Lib.hid hb1; have p1 : W1.cell? ⟨pb, 0, none⟩ = some (.slice A n c) := (HP.out.below hb1 HP.out.lt).cell 0; clear hb1)
      go_upto_region 4 with (go_at_call 7; refine (HPR.out _ HB1.out).mono ?_; rintro e V1 ⟨G, cG, rfl, hfn, hb⟩; have HV1 := Lib.hid (HB1.out.trans (hb.mono HB1.out.size)); have HG1 := Lib.hid hfn; clear hfn hb)
      obtain ⟨X1, HX1⟩ : ∃ X, Hid (X = V1.alloc (.cells #[.slice G n cG] 24)) := ⟨_, Lib.hid rfl⟩
      obtain ⟨ba, HBA⟩ : ∃ X, Hid (X = V1.heap.size) := ⟨_, Lib.hid rfl⟩
      rw [← HX1.out, ← HBA.out]
      have hb1 : Below V1.heap.size V1 X1 := by rw [HX1.out]; exact (Below.refl _ _).alloc (Nat.le_refl _) _
      have HXW := Lib.hid (HV1.out.trans (hb1.mono HV1.out.size))
      have HGX := Lib.hid (HG1.out.step hb1)
      have HBOX := Lib.hid (show Blk X1 ba 24 #[.slice G n cG] by rw [HX1.out, HBA.out]; exact Blk.new V1 _ _)
      have PV := Lib.hid (fun (V : World) (h : Below X1.heap.size X1 V) => (show V.cell? ⟨pb, 0, none⟩ = some (.slice A n c) from (HP.out.below (HXW.out.trans (h.mono HXW.out.size)) HP.out.lt).cell 0))
      have QV := Lib.hid (fun (V : World) (h : Below X1.heap.size X1 V) => (show V.cell? ⟨ba, 0, none⟩ = some (.slice G n cG) from (HBOX.out.below h HBOX.out.lt).cell 0))
      have q1 := QV.out X1 (.refl _ _)
      clear hb1 p1 p0
      go_upto_region 7 with (go_at_call 10; refine (HRC.out _ _ _ HGX.out).mono ?_; rintro e V2 ⟨rfl, hb⟩; have HV2 := Lib.hid hb; clear hb)
      have p2 := PV.out V2 HV2.out
      have q2 := QV.out V2 HV2.out
      clear q1
      go_upto_region 11 with (go_at_call 11; refine (HLO.out V2 _ _ (HXW.out.trans (HV2.out.mono HXW.out.size)) (HGX.out.step HV2.out)).mono ?_; rintro e V3 ⟨rfl, hb⟩; have HV3 := Lib.hid (HV2.out.trans (hb.mono HV2.out.size)); clear hb)
      have p3 := PV.out V3 HV3.out
      have q3 := QV.out V3 HV3.out
      clear p2 q2
      have HW3 := Lib.hid (HXW.out.trans (HV3.out.mono HXW.out.size))
      have HFV := Lib.hid (HF.out.step HW3.out)
      have HGV := Lib.hid (HGX.out.step HV3.out)
      go_loop [13] (fun vi => ∃ i : Nat, i ≤ n ∧ vi = .int .i64 i) (fun vi => n - (intOf vi).toNat)
      case atStart => exact ⟨0, by omega, rfl⟩
      case round =>
        obtain ⟨i, hi, rfl⟩ := hrel
        by_cases hin : i < n
        · have hif : i < fs.length := by rw [← HN.out]; exact hin
          have hig : i < gs.length := by rw [HGL.out]; exact hif
          obtain ⟨b, off, a, eA, hbb, c0, c1, hfn⟩ := HFV.out.at_ i hif
          obtain ⟨b', off', a', eG, hbb', c0', c1', hfn'⟩ := HGV.out.at_ i hig
          subst eA
          subst eG
          obtain ⟨C, fn, fc, S, sm, sd⟩ := a
          obtain ⟨C', fn', fc', S', sm', sd'⟩ := a'
          simp only at c0 c1 c0' c1'
          have HFN := Lib.hid hfn
          have HFN' := Lib.hid hfn'
          have h64 := HFEW.out i hif
          have hsm : sm = fs[i].safe.length := hfn.2.1
          have hsm' : sm' = gs[i].safe.length := hfn'.2.1
          have HSM1 := Lib.hid hsm
          have HSM2 := Lib.hid hsm'
          have hsm64 : sm ≤ 64 := by omega
          clear hfn hfn' hbb hbb' h64 hsm hsm'
          go_upto_region 14 with (fail)
          go_loop [14] (fun vk => ∃ k : Nat, k ≤ sm ∧ vk = .int .i64 k) (fun vk => sm - (intOf vk).toNat)
          case atStart => exact ⟨0, by omega, rfl⟩
          case round =>
            obtain ⟨k, hk, rfl⟩ := hrel
            by_cases hks : k < sm
            · have hkf : k < fs[i].safe.length := by rw [← HSM1.out]; exact hks
              obtain ⟨hl, hup⟩ := HUP.out i k hif hig hkf
              have hkg : k < gs[i].safe.length := by rw [hl]; exact hkf
              have hks' : k < sm' := by rw [HSM2.out]; exact hkg
              obtain ⟨sb, so, e1, hsb, s0⟩ := safe_cell HFN.out.2.2.2.1 k hkf
              obtain ⟨sb', so', e2, hsb', s0'⟩ := safe_cell HFN'.out.2.2.2.1 k hkg
              subst e1
              subst e2
              obtain ⟨v, HV⟩ : ∃ v, Hid (v = fs[i].safe.getD k false) := ⟨_, Lib.hid rfl⟩
              obtain ⟨v', HV'⟩ : ∃ v, Hid (v = gs[i].safe.getD k false) := ⟨_, Lib.hid rfl⟩
              rw [← HV.out] at s0 hup
              rw [← HV'.out] at s0' hup
              clear hkf hkg hl hsb hsb' HV HV'
              cases v with
              | false =>
                clear hup
                go_wp2_with fail
                exact ⟨⟨k + 1, by omega, by go_num⟩, by simp [intOf]; omega⟩
              | true =>
                obtain rfl : v' = true := hup rfl
                clear hup
                go_wp2_with fail
                exact ⟨⟨k + 1, by omega, by go_num⟩, by simp [intOf]; omega⟩
            · go_wp2_with fail
              exact ⟨⟨i + 1, by omega, by go_num⟩, by simp [intOf]; omega⟩
        · go_upto_region 19 with (go_at_call 7; refine (HP2.out V3 _ _ HW3.out HGV.out).mono ?_; rintro e V4 ⟨H, cH, rfl, hfn, hb⟩; have HV4 := Lib.hid hb; have HG4 := Lib.hid hfn; clear hfn hb)
          obtain ⟨X4, HX4⟩ : ∃ X, Hid (X = V4.alloc (.cells #[.slice H n cH] 24)) := ⟨_, Lib.hid rfl⟩
          obtain ⟨bb, HBB⟩ : ∃ X, Hid (X = V4.heap.size) := ⟨_, Lib.hid rfl⟩
          rw [← HX4.out, ← HBB.out]
          have hb4 : Below V4.heap.size V4 X4 := by rw [HX4.out]; exact (Below.refl _ _).alloc (Nat.le_refl _) _
          have HX3 := Lib.hid (HV4.out.trans (hb4.mono HV4.out.size))
          have HW4 := Lib.hid (HW3.out.trans (HX3.out.mono HW3.out.size))
          have HGA := Lib.hid (HGV.out.step HX3.out)
          have HGB := Lib.hid (HG4.out.step hb4)
          have q4 := QV.out X4 (HV3.out.trans (HX3.out.mono HV3.out.size))
          have q5 : X4.cell? ⟨bb, 0, none⟩ = some (.slice H n cH) := (show Blk X4 bb 24 #[.slice H n cH] by rw [HX4.out, HBB.out]; exact Blk.new V4 _ _).cell 0
          clear hb4 p3 q3
          go_wp2_with (first | (go_at_call 9; refine (HSM.out _ _ _ _ _ HGB.out HGA.out).mono ?_; rintro e V5 ⟨rfl, hb⟩; have HV5 := Lib.hid (HW4.out.trans (hb.mono HW4.out.size)); clear hb) | (go_at_call 6; refine (HAL.out _ HV5.out).mono ?_; rintro e V6 ⟨rfl, hb⟩; have HB6 := Lib.hid hb; clear hb))
          go_ret
          exact ⟨rfl, HB.out.trans ((HV5.out.trans (HB6.out.mono HV5.out.size)).mono HB.out.size)⟩
    · have HPR := Lib.hid (fun (V : World) (h : Below W.heap.size W V) => prog_bad hx (HPR.out V h))
      obtain ⟨n, HN⟩ : ∃ n, Hid (n = fs.length) := ⟨_, Lib.hid rfl⟩
      rw [← HN.out] at HC HP HW HPR ⊢
      have p0 : W.cell? ⟨pb, 0, none⟩ = some (.slice A n c) := HP.out.cell 0
      clear hx hmx
      go_enter Tryd.func4, Tryd.ntmps4
      go_upto_region 1 with (fail)
      rw [← HW.out, ← hpb]
      clear hpb
      go_upto_region 3 with (go_at_call 5; refine HC.out.mono ?_; rintro e W1 ⟨rfl, hb1⟩; have HB1 := Lib.hid hb1; have p1 : W1.cell? ⟨pb, 0, none⟩ = some (.slice A n c) := (HP.out.below hb1 HP.out.lt).cell 0; clear hb1)
      go_wp2_with (first | (go_at_call 7; refine (HPR.out _ HB1.out).mono ?_; rintro e V1 ⟨rfl, hb⟩; have HV1 := Lib.hid (HB1.out.trans (hb.mono HB1.out.size)); clear hb) | (go_at_call 6; refine (HAL.out _ (HV1.out.alloc HV1.out.size _)).mono ?_; rintro e V2 ⟨rfl, hb⟩; have HB2 := Lib.hid ((HV1.out.alloc HV1.out.size _).trans (hb.mono (HV1.out.alloc HV1.out.size _).size)); clear hb))
      go_ret
      exact ⟨rfl, HB.out.trans (HB2.out.mono HB.out.size)⟩
end Go.Proofs.YtfgaonkoaolffaaDoor
namespace Go.Proofs.YtfgaonkoaolffaaDoor
open Go.ChangeShapes Go.WideShapes Go.ChangeAt Go.RowKit Go.Joins Go.Deep
namespace lawMarkGaps
set_option maxRecDepth 100000 in
theorem contract (H : Type) (enc : TypeId × Value → H) (W : World) (base : Nat) (args : Array Value) (ds gs : List (DataW H)) (before : List MemPlace)
    (hval : ∀ (j : Nat) t v, Tryd.f4.params[j]? = some t → args[j]? = some v → Value.okWide Tryd.prog W .any base t v)
    (hW : DataW.Whole enc Tryd.prog Tryd.f4.params.toList Rows.markGapsSpec.vars false W args.toList ds gs before) (hL : laidMetH Tryd.prog Rows.markGapsRow.laid W) :
    Calls Tryd.prog 4 args W fun e W' => ∃ v, e = .returned v ∧ Rows.markGapsSpec.post enc Tryd.prog Tryd.f4 false true false false W args v W' := by
  have hTab : Tab W := tab_of_laid hL
  clear hL
  have hW' := hW
  obtain ⟨p, q, hA0, hV, rfl, _, _⟩ := hW
  have hA : DataW.TrodAll enc Tryd.prog W 0 (fun _ => true) true Tryd.f4.params.toList args.toList ds p := hA0
  rw [Tryd.params4] at hA hval
  have hlt : ∀ x ∈ p, x.block < W.heap.size := fun x hx => hW'.lt x (by simp [hx])
  obtain ⟨v0, v1, d0, d1, p0, p1, rfl, rfl, rfl, h0, h1⟩ := trodAll_two hA
  obtain ⟨A, c, fs, rfl, hm, hfs⟩ := open_prog (hval 0 _ v0 rfl rfl) h0 (fun q hq => hlt q (by simp [hq]))
  obtain ⟨x, rfl, rfl, rfl, wx⟩ := open_int Tryd.underlying3 (hval 1 3 v1 rfl rfl) h1
  obtain ⟨rfl, rfl⟩ := trodVars_none hV
  refine (gaps39 A c fs x W hTab hm hfs).mono fun e W' ⟨he, hb⟩ => ?_
  subst he
  exact ⟨_, rfl, law_post Tryd.laidOut rfl Tryd.underlying4 (by kernel_rfl) (by kernel_rfl) ⟨rfl, rfl, rfl⟩ hW' hb⟩
theorem laid_met (os : Os) : laidMet Tryd.prog Rows.markGapsRow.laid ((laidWorld os).forCall (fun _ _ => 0) ⟨#[], #[.agg #[.slice none 0 0], .int .i64 0], []⟩).memory :=
  laidMet_of_run' 8 (by kernel_rfl) (by kernel_rfl)
theorem reads (os : Os) {H : Type} (enc : TypeId × Value → H) : ∃ places, DataW.whole enc Tryd.prog ((laidWorld os).forCall (fun _ _ => 0) ⟨#[], #[.agg #[.slice none 0 0], .int .i64 0], []⟩).memory Tryd.f4.params.toList Rows.markGapsSpec.vars false (#[.agg #[.slice none 0 0], .int .i64 0] : Array Value).toList 8 = some ([.agg [.nil], .lit (.int .i64 0)], [], places) :=
  ⟨[], by kernel_rfl⟩
set_option maxRecDepth 100000 in
theorem lifted (os : Os) (started : os.Started) (H : Type) (enc : TypeId × Value → H) (F : Stop.Interp) :
    ReturnsInHanded {} Tryd.checked os 4 .any ((OpenSpec.ofChange Rows.markGapsSpec).preRow enc Tryd.prog Tryd.f4 Rows.markGapsRow.domain false Rows.markGapsRow.laid) (((OpenSpec.ofChange Rows.markGapsSpec).at F).post enc Tryd.prog Tryd.f4 false true false false) := by
  obtain ⟨places, hx⟩ := reads os enc
  refine returnsInHanded_of_row (C := Tryd.checked) (s := OpenSpec.ofChange Rows.markGapsSpec) Tryd.own started (by kernel_rfl) Tryd.func4
    (witness_row_at (enc := enc) (C := Tryd.checked) false (laidWorld os) #[.agg #[.slice none 0 0], .int .i64 0] rfl (by kernel_rfl) (by kernel_rfl) (by kernel_rfl)
      (OpenSpec.preRow_of_cond 8 hx (by kernel_rfl) (fun k hk => by cases hk) (by kernel_rfl) (laid_met os))) ?_
  intro W base args ds gs before hval hW _ _ _ hL _ _
  exact contract H enc W base args ds gs before hval hW hL
theorem said : Rows.MarkGapsSaid :=
  OpenClaim.holds_of_cond 4 Tryd.f4 rfl rfl rfl rfl rfl rfl rfl ⟨rfl, rfl, rfl, rfl, rfl⟩ rfl rfl rfl rfl rfl (by kernel_rfl) Tryd.func4 (by kernel_rfl)
    (of_decide_eq_true (by kernel_rfl)) (by unfold Func.isWrapper; first | (rw [if_pos (by decide +kernel)]; kernel_rfl) | (rw [if_neg (by decide +kernel)]; exact ⟨rfl, rfl⟩))
    (fun os started H enc _ F => by rw [OpenClaim.pre_eq_preRow]; exact lifted os started H enc F)
theorem plain (f : FuncId) (fn : Func) (hf : Tryd.pinned.checked.prog.funcNamed "escapement/escapementlaw39.MarkGaps" = some f) (hfn : Tryd.pinned.checked.prog.funcs[f]? = some fn) :
    false = Tryd.pinned.checked.prog.looks [] ∧ ∀ (j : Nat) t, fn.params[j]? = some t → Tryd.pinned.checked.prog.wantsStandIn t = false := by
  obtain rfl : f = 4 := Option.some.inj ((show Tryd.prog.funcNamed "escapement/escapementlaw39.MarkGaps" = some 4 by kernel_rfl).symm.trans hf) |>.symm
  obtain rfl : fn = Tryd.f4 := (Option.some.inj (Tryd.func4.symm.trans hfn)).symm
  refine ⟨by kernel_rfl, fun j t ht => ?_⟩
  exact no_stand (by kernel_rfl) (Array.mem_of_getElem? ht)
theorem card : Rows.MarkGapsCardSaid :=
  Claim7.holds_tied_plain_at .later [] _ _ _ _ said (fun _ h => by cases h) (by kernel_rfl) (fun _ h => by cases h) markGaps_row_tie rfl ⟨rfl, rfl⟩ (by kernel_rfl) rfl plain (by kernel_rfl)
end lawMarkGaps
#print axioms lawMarkGaps.card

end Go.Proofs.YtfgaonkoaolffaaDoor

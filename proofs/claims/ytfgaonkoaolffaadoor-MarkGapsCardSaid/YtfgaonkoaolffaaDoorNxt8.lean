/-
  Chapter 8: what comes next to a place: flow.Next. Conditions: the table is laid, the function lies in memory.
-/
import Derived.Test.YtfgaonkoaolffaaDoorSrt8
import Derived.Test.YtfgaonkoaolffaaDoorRch8
import Derived.Test.YtfgaonkoaolffaaDoorIsa
import Derived.Test.YtfgaonkoaolffaaDoorFns
import Derived.Test.YtfgaonkoaolffaaDoorBlk
import Derived.Deep.DeepCutAuto
import Derived.WalkSpells
import Derived.WalkLawsBesides
import Derived.OwnWalk
namespace Go.Proofs.YtfgaonkoaolffaaDoor
open Go.RowKit
/-- Where an instruction goes to, if it is a place. -/
def tgtN (n : Nat) (i : Ins) : List Nat := if opTarget i.op = 1 ∧ 0 ≤ i.n ∧ i.n < n then [i.n.toNat] else []
/-- The place behind it. -/
def onN (n pc : Nat) (i : Ins) : List Nat := if opEnds i.op = false ∧ pc + 1 < n then [pc + 1] else []
def nxN (code : List Ins) (pc : Nat) : List Nat := if h : pc < code.length then srtN (tgtN code.length code[pc] ++ onN code.length pc code[pc]) else []
def nxZ (code : List Ins) (pc : Int) : List Nat := if 0 ≤ pc then nxN code pc.toNat else []
theorem nx_lt {code : List Ins} {pc k : Nat} (h : k ∈ nxN code pc) : k < code.length := by
  unfold nxN at h
  split at h
  · rw [mem_srt, List.mem_append] at h
    rcases h with h | h
    · unfold tgtN at h
      split at h
      · rw [List.mem_singleton] at h
        omega
      · cases h
    · unfold onN at h
      split at h
      · rw [List.mem_singleton] at h
        omega
      · cases h
  · cases h
theorem nxZ_nat (code : List Ins) (k : Nat) : nxZ code k = nxN code k := by
  unfold nxZ
  rw [if_pos (by omega)]
  rfl
/-- What Next answers: a row of its own. -/
def RowOut (w : World) (l : List Nat) (e : Ending) (w' : World) : Prop :=
  ∃ A c, e = .returned (.slice A l.length c) ∧ Own w' w.heap.size 3 1 A l.length c (ints (upI l)) ∧ Below w.heap.size w w'
theorem own_base {w : World} {b0 b1 size n c : Nat} {e : TypeId} {A : Option Addr} {xs : List Value} (h : Own w b1 e size A n c xs) (hb : b0 ≤ b1) : Own w b0 e size A n c xs := by
  refine ⟨h.1, ?_⟩
  rcases h.2 with h2 | ⟨g, cap, cur, hv, hg, rest⟩
  · exact .inl h2
  · exact .inr ⟨g, cap, cur, hv, Nat.le_trans hb hg, rest⟩
theorem own_low {w w' : World} {b0 size n c : Nat} {e : TypeId} {A : Option Addr} {xs : List Value} (h : Own w b0 e size A n c xs) (hb : Below w.heap.size w w') : Own w' b0 e size A n c xs := by
  refine ⟨h.1, ?_⟩
  rcases h.2 with h2 | ⟨g, cap, cur, hv, hg, hh, rest⟩
  · exact .inl h2
  · exact .inr ⟨g, cap, cur, hv, hg, (hb.block g (Array.getElem?_eq_some_iff.1 hh).1).trans hh, rest⟩
theorem Tryd.infoI3 : (Tryd.prog.info? 3).map (fun i => (i.zero, i.size, i.bytes)) = some (some (.int .i64 0), 1, 8) := by kernel_rfl
/-- Sort and Compact of what was put together. -/
theorem RowOut.of {w W : World} {A : Option Addr} {n c : Nat} {l : List Nat} (h : Own W w.heap.size 3 1 A n c (ints (Lib.compact ((upI l).mergeSort fun x y => decide (x ≤ y))))) (hl : n = (Lib.compact ((upI l).mergeSort fun x y => decide (x ≤ y))).length) (hb : Below w.heap.size w W) : RowOut w (srtN l) (.returned (.slice A n c)) W := by
  rw [sort_compact] at h hl
  have : n = (srtN l).length := by rw [hl]; unfold upI; rw [List.length_map]
  subst this
  exact ⟨A, c, rfl, h, hb⟩
set_option maxRecDepth 10000 in
set_option maxHeartbeats 2000000 in
theorem next_any {w : World} {C S : Option Addr} {n c m d : Nat} {f : Fn} (hT : Tab w) (hf : FnOk w w.heap.size ⟨C, n, c, S, m, d⟩ f) (hfl : n ≤ 70) (pc : Int) :
    Calls Tryd.prog 22 #[.agg #[.slice C n c, .slice S m d], .int .i64 pc] w (RowOut w (nxZ f.code pc)) := by
  obtain ⟨W, HW⟩ : ∃ W, Hid (W = w.alloc (.cells #[.slice C n c, .slice S m d] 39)) := ⟨_, Lib.hid rfl⟩
  obtain ⟨gp, HGP⟩ : ∃ q, Hid (q = w.heap.size) := ⟨_, Lib.hid rfl⟩
  have HBW := Lib.hid (show Below w.heap.size w W by rw [HW.out]; exact (Below.refl _ w).alloc (Nat.le_refl _) _)
  have HP := Lib.hid (show Blk W gp 39 #[.slice C n c, .slice S m d] by rw [HW.out, HGP.out]; exact Blk.new w _ _)
  have HN := Lib.hid (show n = f.code.length from hf.1)
  have p0 : W.cell? ⟨gp, 0, none⟩ = some (.slice C n c) := (HP.out.cell 0).trans rfl
  have hw := HW.out
  have hgp := HGP.out
  by_cases hin : 0 ≤ pc ∧ pc < n
  · obtain ⟨k, rfl⟩ : ∃ k : Nat, pc = (k : Int) := ⟨pc.toNat, by omega⟩
    have hkn : k < n := by omega
    have hkc : k < f.code.length := by rw [← hf.1]; exact hkn
    obtain ⟨b, off, hC, hbl, v0, v1, v2, v3, v4⟩ := (hf.below HBW.out).ins5 k hkc
    have HIOK := hf.2.2.2.2.2.2 f.code[k] (List.getElem_mem _)
    obtain ⟨i, HIE⟩ : ∃ i, Hid (i = f.code[k]) := ⟨_, Lib.hid rfl⟩
    rw [← HIE.out] at v0 v1 v2 v3 v4 HIOK
    have HNX := Lib.hid (show nxZ f.code (k : Int) = srtN (tgtN n i ++ onN n k i) by
      rw [nxZ_nat]
      unfold nxN
      rw [dif_pos hkc, ← HIE.out, ← HN.out])
    have hC' : C = some ⟨b, off, none⟩ := hC
    subst hC'
    obtain ⟨op, ra, rb, rc, x⟩ := i
    simp only at v0 v1 v2 v3 v4 HIOK
    have hxI := HIOK.2.2.2.2
    unfold I64 at hxI
    obtain ⟨W2, HW2⟩ : ∃ W2, Hid (W2 = W.alloc (.cells #[.int .i64 op, .int .i64 ra, .int .i64 rb, .int .i64 rc, .int .i64 x] 43)) := ⟨_, Lib.hid rfl⟩
    obtain ⟨gi, HGI⟩ : ∃ q, Hid (q = W.heap.size) := ⟨_, Lib.hid rfl⟩
    obtain ⟨B2, HB2E⟩ : ∃ q, Hid (q = W2.heap.size) := ⟨_, Lib.hid rfl⟩
    have HBW2 := Lib.hid (show Below w.heap.size w W2 by rw [HW2.out]; exact HBW.out.alloc HBW.out.size _)
    have HP2 := Lib.hid (show Blk W2 gp 39 #[.slice (some ⟨b, off, none⟩) n c, .slice S m d] by rw [HW2.out]; exact HP.out.alloc _)
    have HI2 := Lib.hid (show Blk W2 gi 43 #[.int .i64 op, .int .i64 ra, .int .i64 rb, .int .i64 rc, .int .i64 x] by rw [HW2.out, HGI.out]; exact Blk.new W _ _)
    have G0 := Lib.hid (show ∀ V, Below W2.heap.size W2 V → V.cell? ⟨gp, 0, none⟩ = some (.slice (some ⟨b, off, none⟩) n c) from fun V h => ((HP2.out.below h HP2.out.lt).cell 0).trans rfl)
    have I0 := Lib.hid (show ∀ V, Below W2.heap.size W2 V → V.cell? ⟨gi, 0, none⟩ = some (.int .i64 op) from fun V h => ((HI2.out.below h HI2.out.lt).cell 0).trans rfl)
    have I4 := Lib.hid (show ∀ V, Below W2.heap.size W2 V → V.cell? ⟨gi, 4, none⟩ = some (.int .i64 x) from fun V h => ((HI2.out.below h HI2.out.lt).cell 4).trans rfl)
    have CT := Lib.hid (isaTarget_any op W2 (hT.step HBW2.out))
    have CE := Lib.hid (fun (V : World) (h : Below W2.heap.size W2 V) => isaEnds_any op V ((hT.step HBW2.out).step h))
    obtain ⟨T, HTE⟩ : ∃ x, Hid (x = opTarget op) := ⟨_, Lib.hid rfl⟩
    obtain ⟨E, HEE⟩ : ∃ x, Hid (x = opEnds op) := ⟨_, Lib.hid rfl⟩
    rw [← HTE.out] at CT
    simp only [← HEE.out] at CE
    unfold tgtN onN at HNX
    simp only [← HTE.out, ← HEE.out] at HNX
    obtain ⟨i0, hi, hz0, hz1, hz2⟩ := info_parts Tryd.infoI3
    have HI := Lib.hid hi
    have HZ0 := Lib.hid hz0
    have HZ1 := Lib.hid hz1
    have HZ2 := Lib.hid hz2
    have HON := Lib.hid (fun (V : World) => Own.nil V B2 3 1)
    have HK63 := Lib.hid hfl
    have hw2 := HW2.out
    have hgi := HGI.out
    have i00 := I0.out W2 (Below.refl _ _)
    have i40 := I4.out W2 (Below.refl _ _)
    have g00 := G0.out W2 (Below.refl _ _)
    clear hT hf hi hz0 hz1 hz2 hC HIOK
    by_cases h1 : T = 1
    · by_cases h2 : 0 ≤ x
      · by_cases h3 : x < (n : Int)
        · by_cases h4 : E = true
          · have HRES := Lib.hid (show nxZ f.code (k : Int) = srtN ([x.toNat] ++ []) by rw [HNX.out, if_pos ⟨h1, h2, h3⟩, if_neg (fun h => by rw [h4] at h; cases h.1)])
            obtain ⟨TL, HTL⟩ : ∃ l, Hid (l = [x.toNat] ++ []) := ⟨_, Lib.hid rfl⟩
            rw [← HTL.out] at HRES
            have hT1 : (T == 1) = true := by simpa using h1
            have hx0 : decide (0 ≤ x) = true := decide_eq_true h2
            have hx1 : decide (x < (n : Int)) = true := decide_eq_true h3
            have hE : E = true := h4
            clear h1 h4 h2 h3 HNX
            obtain ⟨y, HY⟩ : ∃ y : Nat, Hid (x = (y : Int)) := ⟨x.toNat, Lib.hid (by have := of_decide_eq_true hx0; omega)⟩
            subst hE
            go_enter Tryd.func22, Tryd.ntmps22
            go_upto_region 1 with (fail)
            rw [← hw, ← hgp]
            clear hw hgp
            go_upto_region 4 with (fail)
            rw [← hw2, ← hgi]
            clear hgi hw2 p0 v0 v1 v2 v3 v4
            go_wp2_with (first | (go_at_call 40; refine CT.out.mono ?_; rintro e V1 ⟨rfl, hb1⟩; have HV1 := Lib.hid (show Below W2.heap.size W2 V1 from hb1); have i4 := I4.out V1 hb1; have i0c := I0.out V1 hb1; have g0 := G0.out V1 hb1; clear hb1) | (at_builtin; go_must (refine wpList_append_1 _ rfl _ _ 51 rfl B2 3 i0 _ 1 8 Tryd.underlying51 HI.out HZ0.out HZ1.out HZ2.out rfl (by decide) _ _ _ _ rfl ((HON.out V1).alloc _) ⟨V1.heap.size, 0, none⟩ 1 [.int .i64 x] rfl rfl (cell_one_new _ _ _) (by simp [Value.oneCell']) (by decide) (by decide) (by rw [World.size_alloc]; have h1 := HV1.out.size; have h2 := HB2E.out; omega) ?_); intro A2 c2 V2 hown hgrow hat; have HO2 := Lib.hid hown; have HV2 := Lib.hid (below_append HV1.out (HON.out V1) (by rw [HB2E.out]; exact Nat.le_refl _) HV1.out.size hgrow); clear hown hgrow hat; have i0v2 := I0.out V2 HV2.out; have g0v2 := G0.out V2 HV2.out) | (go_at_call 41; refine (CE.out V2 HV2.out).mono ?_; rintro e V3 ⟨rfl, hb3⟩; have HV3 := Lib.hid (HV2.out.trans (hb3.mono HV2.out.size)); have HOE := Lib.hid (own_low HO2.out hb3); have g3 := G0.out V3 HV3.out; clear hb3) | (go_at_call 38; refine (sort_any (l := upI TL) (by rw [HTL.out]; have h := HOE.out; simpa [ints, upI, HY.out] using h) (by rw [HB2E.out]; exact HV3.out.size) (by decide)).mono ?_; rintro e V5 ⟨rfl, ho5, hb5⟩; have HO5 := Lib.hid ho5; have HV5 := Lib.hid (HV3.out.trans (by rw [← HB2E.out]; exact hb5)); clear ho5 hb5) | (go_at_call 39; refine (compact_any HO5.out).mono ?_; rintro e V6 ⟨rfl, ho6, hb6⟩; have HO6 := Lib.hid ho6; have HV6 := Lib.hid (HV5.out.trans (by rw [← HB2E.out]; exact hb6)); clear ho6 hb6))
            go_ret
            rw [HRES.out]
            exact RowOut.of (own_base HO6.out (by rw [HB2E.out]; exact HBW2.out.size)) rfl (HBW2.out.trans (HV6.out.mono HBW2.out.size))
          · by_cases h5 : k + 1 < n
            · have HRES := Lib.hid (show nxZ f.code (k : Int) = srtN ([x.toNat] ++ [k + 1]) by rw [HNX.out, if_pos ⟨h1, h2, h3⟩, if_pos ⟨by simpa using h4, h5⟩])
              obtain ⟨TL, HTL⟩ : ∃ l, Hid (l = [x.toNat] ++ [k + 1]) := ⟨_, Lib.hid rfl⟩
              rw [← HTL.out] at HRES
              have hT1 : (T == 1) = true := by simpa using h1
              have hx0 : decide (0 ≤ x) = true := decide_eq_true h2
              have hx1 : decide (x < (n : Int)) = true := decide_eq_true h3
              have hE : E = false := by simpa using h4
              have hk2 : decide ((k : Int) + 1 < (n : Int)) = true := decide_eq_true (by omega)
              clear h1 h4 h2 h3 h5 HNX
              obtain ⟨y, HY⟩ : ∃ y : Nat, Hid (x = (y : Int)) := ⟨x.toNat, Lib.hid (by have := of_decide_eq_true hx0; omega)⟩
              subst hE
              go_enter Tryd.func22, Tryd.ntmps22
              go_upto_region 1 with (fail)
              rw [← hw, ← hgp]
              clear hw hgp
              go_upto_region 4 with (fail)
              rw [← hw2, ← hgi]
              clear hgi hw2 p0 v0 v1 v2 v3 v4
              go_wp2_with (first | (go_at_call 39; refine (compact_any HO5.out).mono ?_; rintro e V6 ⟨rfl, ho6, hb6⟩; have HO6 := Lib.hid ho6; have HV6 := Lib.hid (HV5.out.trans (by rw [← HB2E.out]; exact hb6)); clear ho6 hb6) | (go_at_call 38; refine (sort_any (l := upI TL) (by rw [HTL.out]; have h := HO4.out; simpa [ints, upI, HY.out] using h) (by rw [HB2E.out]; exact HV4.out.size) (by decide)).mono ?_; rintro e V5 ⟨rfl, ho5, hb5⟩; have HO5 := Lib.hid ho5; have HV5 := Lib.hid (HV4.out.trans (by rw [← HB2E.out]; exact hb5)); clear ho5 hb5) | (at_builtin; (refine wpList_append_1 _ rfl _ _ 51 rfl B2 3 i0 _ 1 8 Tryd.underlying51 HI.out HZ0.out HZ1.out HZ2.out rfl (by decide) _ _ _ _ rfl (HOE.out.alloc _) ⟨V3.heap.size, 0, none⟩ 1 [.int .i64 ((k : Int) + 1)] rfl rfl (cell_one_new _ _ _) (by simp [Value.oneCell']) (by decide) (by decide) (by rw [World.size_alloc]; have h1 := HV3.out.size; have h2 := HB2E.out; omega) ?_); intro A4 c4 V4 hown hgrow hat; have HO4 := Lib.hid hown; have HV4 := Lib.hid (below_append HV3.out HOE.out (by rw [HB2E.out]; exact Nat.le_refl _) HV3.out.size hgrow); clear hown hgrow hat; have i0v4 := I0.out V4 HV4.out; have g0v4 := G0.out V4 HV4.out) | (go_at_call 41; refine (CE.out V2 HV2.out).mono ?_; rintro e V3 ⟨rfl, hb3⟩; have HV3 := Lib.hid (HV2.out.trans (hb3.mono HV2.out.size)); have HOE := Lib.hid (own_low HO2.out hb3); have g3 := G0.out V3 HV3.out; clear hb3) | (at_builtin; (refine wpList_append_1 _ rfl _ _ 51 rfl B2 3 i0 _ 1 8 Tryd.underlying51 HI.out HZ0.out HZ1.out HZ2.out rfl (by decide) _ _ _ _ rfl ((HON.out V1).alloc _) ⟨V1.heap.size, 0, none⟩ 1 [.int .i64 x] rfl rfl (cell_one_new _ _ _) (by simp [Value.oneCell']) (by decide) (by decide) (by rw [World.size_alloc]; have h1 := HV1.out.size; have h2 := HB2E.out; omega) ?_); intro A2 c2 V2 hown hgrow hat; have HO2 := Lib.hid hown; have HV2 := Lib.hid (below_append HV1.out (HON.out V1) (by rw [HB2E.out]; exact Nat.le_refl _) HV1.out.size hgrow); clear hown hgrow hat; have i0v2 := I0.out V2 HV2.out; have g0v2 := G0.out V2 HV2.out) | (go_at_call 40; refine CT.out.mono ?_; rintro e V1 ⟨rfl, hb1⟩; have HV1 := Lib.hid (show Below W2.heap.size W2 V1 from hb1); have i4 := I4.out V1 hb1; have i0c := I0.out V1 hb1; have g0 := G0.out V1 hb1; clear hb1))
              go_ret
              rw [HRES.out]
              exact RowOut.of (own_base HO6.out (by rw [HB2E.out]; exact HBW2.out.size)) rfl (HBW2.out.trans (HV6.out.mono HBW2.out.size))
            · have HRES := Lib.hid (show nxZ f.code (k : Int) = srtN ([x.toNat] ++ []) by rw [HNX.out, if_pos ⟨h1, h2, h3⟩, if_neg (fun h => h5 h.2)])
              obtain ⟨TL, HTL⟩ : ∃ l, Hid (l = [x.toNat] ++ []) := ⟨_, Lib.hid rfl⟩
              rw [← HTL.out] at HRES
              have hT1 : (T == 1) = true := by simpa using h1
              have hx0 : decide (0 ≤ x) = true := decide_eq_true h2
              have hx1 : decide (x < (n : Int)) = true := decide_eq_true h3
              have hE : E = false := by simpa using h4
              have hk2 : decide ((k : Int) + 1 < (n : Int)) = false := decide_eq_false (by omega)
              clear h1 h4 h2 h3 h5 HNX
              obtain ⟨y, HY⟩ : ∃ y : Nat, Hid (x = (y : Int)) := ⟨x.toNat, Lib.hid (by have := of_decide_eq_true hx0; omega)⟩
              subst hE
              go_enter Tryd.func22, Tryd.ntmps22
              go_upto_region 1 with (fail)
              rw [← hw, ← hgp]
              clear hw hgp
              go_upto_region 4 with (fail)
              rw [← hw2, ← hgi]
              clear hgi hw2 p0 v0 v1 v2 v3 v4
              go_wp2_with (first | (go_at_call 40; refine CT.out.mono ?_; rintro e V1 ⟨rfl, hb1⟩; have HV1 := Lib.hid (show Below W2.heap.size W2 V1 from hb1); have i4 := I4.out V1 hb1; have i0c := I0.out V1 hb1; have g0 := G0.out V1 hb1; clear hb1) | (at_builtin; go_must (refine wpList_append_1 _ rfl _ _ 51 rfl B2 3 i0 _ 1 8 Tryd.underlying51 HI.out HZ0.out HZ1.out HZ2.out rfl (by decide) _ _ _ _ rfl ((HON.out V1).alloc _) ⟨V1.heap.size, 0, none⟩ 1 [.int .i64 x] rfl rfl (cell_one_new _ _ _) (by simp [Value.oneCell']) (by decide) (by decide) (by rw [World.size_alloc]; have h1 := HV1.out.size; have h2 := HB2E.out; omega) ?_); intro A2 c2 V2 hown hgrow hat; have HO2 := Lib.hid hown; have HV2 := Lib.hid (below_append HV1.out (HON.out V1) (by rw [HB2E.out]; exact Nat.le_refl _) HV1.out.size hgrow); clear hown hgrow hat; have i0v2 := I0.out V2 HV2.out; have g0v2 := G0.out V2 HV2.out) | (go_at_call 41; refine (CE.out V2 HV2.out).mono ?_; rintro e V3 ⟨rfl, hb3⟩; have HV3 := Lib.hid (HV2.out.trans (hb3.mono HV2.out.size)); have HOE := Lib.hid (own_low HO2.out hb3); have g3 := G0.out V3 HV3.out; clear hb3) | (go_at_call 38; refine (sort_any (l := upI TL) (by rw [HTL.out]; have h := HOE.out; simpa [ints, upI, HY.out] using h) (by rw [HB2E.out]; exact HV3.out.size) (by decide)).mono ?_; rintro e V5 ⟨rfl, ho5, hb5⟩; have HO5 := Lib.hid ho5; have HV5 := Lib.hid (HV3.out.trans (by rw [← HB2E.out]; exact hb5)); clear ho5 hb5) | (go_at_call 39; refine (compact_any HO5.out).mono ?_; rintro e V6 ⟨rfl, ho6, hb6⟩; have HO6 := Lib.hid ho6; have HV6 := Lib.hid (HV5.out.trans (by rw [← HB2E.out]; exact hb6)); clear ho6 hb6))
              go_ret
              rw [HRES.out]
              exact RowOut.of (own_base HO6.out (by rw [HB2E.out]; exact HBW2.out.size)) rfl (HBW2.out.trans (HV6.out.mono HBW2.out.size))
        · by_cases h4 : E = true
          · have HRES := Lib.hid (show nxZ f.code (k : Int) = srtN ([] ++ []) by rw [HNX.out, if_neg (fun h => h3 h.2.2), if_neg (fun h => by rw [h4] at h; cases h.1)])
            obtain ⟨TL, HTL⟩ : ∃ l, Hid (l = [] ++ []) := ⟨_, Lib.hid rfl⟩
            rw [← HTL.out] at HRES
            have hT1 : (T == 1) = true := by simpa using h1
            have hx0 : decide (0 ≤ x) = true := decide_eq_true h2
            have hx1 : decide (x < (n : Int)) = false := decide_eq_false h3
            have hE : E = true := h4
            clear h1 h4 h2 h3 HNX
            subst hE
            go_enter Tryd.func22, Tryd.ntmps22
            go_upto_region 1 with (fail)
            rw [← hw, ← hgp]
            clear hw hgp
            go_upto_region 4 with (fail)
            rw [← hw2, ← hgi]
            clear hgi hw2 p0 v0 v1 v2 v3 v4
            go_wp2_with (first | (go_at_call 40; refine CT.out.mono ?_; rintro e V1 ⟨rfl, hb1⟩; have HV1 := Lib.hid (show Below W2.heap.size W2 V1 from hb1); have i4 := I4.out V1 hb1; have i0c := I0.out V1 hb1; have g0 := G0.out V1 hb1; clear hb1) | (go_at_call 41; refine (CE.out V1 HV1.out).mono ?_; rintro e V3 ⟨rfl, hb3⟩; have HV3 := Lib.hid (HV1.out.trans (hb3.mono HV1.out.size)); have g3 := G0.out V3 HV3.out; clear hb3) | (go_at_call 38; refine (sort_any (l := upI TL) (by rw [HTL.out]; have h := (HON.out V3); simpa [ints, upI] using h) (by rw [HB2E.out]; exact HV3.out.size) (by decide)).mono ?_; rintro e V5 ⟨rfl, ho5, hb5⟩; have HO5 := Lib.hid ho5; have HV5 := Lib.hid (HV3.out.trans (by rw [← HB2E.out]; exact hb5)); clear ho5 hb5) | (go_at_call 39; refine (compact_any HO5.out).mono ?_; rintro e V6 ⟨rfl, ho6, hb6⟩; have HO6 := Lib.hid ho6; have HV6 := Lib.hid (HV5.out.trans (by rw [← HB2E.out]; exact hb6)); clear ho6 hb6))
            go_ret
            rw [HRES.out]
            exact RowOut.of (own_base HO6.out (by rw [HB2E.out]; exact HBW2.out.size)) rfl (HBW2.out.trans (HV6.out.mono HBW2.out.size))
          · by_cases h5 : k + 1 < n
            · have HRES := Lib.hid (show nxZ f.code (k : Int) = srtN ([] ++ [k + 1]) by rw [HNX.out, if_neg (fun h => h3 h.2.2), if_pos ⟨by simpa using h4, h5⟩])
              obtain ⟨TL, HTL⟩ : ∃ l, Hid (l = [] ++ [k + 1]) := ⟨_, Lib.hid rfl⟩
              rw [← HTL.out] at HRES
              have hT1 : (T == 1) = true := by simpa using h1
              have hx0 : decide (0 ≤ x) = true := decide_eq_true h2
              have hx1 : decide (x < (n : Int)) = false := decide_eq_false h3
              have hE : E = false := by simpa using h4
              have hk2 : decide ((k : Int) + 1 < (n : Int)) = true := decide_eq_true (by omega)
              clear h1 h4 h2 h3 h5 HNX
              subst hE
              go_enter Tryd.func22, Tryd.ntmps22
              go_upto_region 1 with (fail)
              rw [← hw, ← hgp]
              clear hw hgp
              go_upto_region 4 with (fail)
              rw [← hw2, ← hgi]
              clear hgi hw2 p0 v0 v1 v2 v3 v4
              go_wp2_with (first | (go_at_call 40; refine CT.out.mono ?_; rintro e V1 ⟨rfl, hb1⟩; have HV1 := Lib.hid (show Below W2.heap.size W2 V1 from hb1); have i4 := I4.out V1 hb1; have i0c := I0.out V1 hb1; have g0 := G0.out V1 hb1; clear hb1) | (go_at_call 41; refine (CE.out V1 HV1.out).mono ?_; rintro e V3 ⟨rfl, hb3⟩; have HV3 := Lib.hid (HV1.out.trans (hb3.mono HV1.out.size)); have g3 := G0.out V3 HV3.out; clear hb3) | (at_builtin; go_must (refine wpList_append_1 _ rfl _ _ 51 rfl B2 3 i0 _ 1 8 Tryd.underlying51 HI.out HZ0.out HZ1.out HZ2.out rfl (by decide) _ _ _ _ rfl ((HON.out V3).alloc _) ⟨V3.heap.size, 0, none⟩ 1 [.int .i64 ((k : Int) + 1)] rfl rfl (cell_one_new _ _ _) (by simp [Value.oneCell']) (by decide) (by decide) (by rw [World.size_alloc]; have h1 := HV3.out.size; have h2 := HB2E.out; omega) ?_); intro A4 c4 V4 hown hgrow hat; have HO4 := Lib.hid hown; have HV4 := Lib.hid (below_append HV3.out (HON.out V3) (by rw [HB2E.out]; exact Nat.le_refl _) HV3.out.size hgrow); clear hown hgrow hat; have i0v4 := I0.out V4 HV4.out; have g0v4 := G0.out V4 HV4.out) | (go_at_call 38; refine (sort_any (l := upI TL) (by rw [HTL.out]; have h := HO4.out; simpa [ints, upI] using h) (by rw [HB2E.out]; exact HV4.out.size) (by decide)).mono ?_; rintro e V5 ⟨rfl, ho5, hb5⟩; have HO5 := Lib.hid ho5; have HV5 := Lib.hid (HV4.out.trans (by rw [← HB2E.out]; exact hb5)); clear ho5 hb5) | (go_at_call 39; refine (compact_any HO5.out).mono ?_; rintro e V6 ⟨rfl, ho6, hb6⟩; have HO6 := Lib.hid ho6; have HV6 := Lib.hid (HV5.out.trans (by rw [← HB2E.out]; exact hb6)); clear ho6 hb6))
              go_ret
              rw [HRES.out]
              exact RowOut.of (own_base HO6.out (by rw [HB2E.out]; exact HBW2.out.size)) rfl (HBW2.out.trans (HV6.out.mono HBW2.out.size))
            · have HRES := Lib.hid (show nxZ f.code (k : Int) = srtN ([] ++ []) by rw [HNX.out, if_neg (fun h => h3 h.2.2), if_neg (fun h => h5 h.2)])
              obtain ⟨TL, HTL⟩ : ∃ l, Hid (l = [] ++ []) := ⟨_, Lib.hid rfl⟩
              rw [← HTL.out] at HRES
              have hT1 : (T == 1) = true := by simpa using h1
              have hx0 : decide (0 ≤ x) = true := decide_eq_true h2
              have hx1 : decide (x < (n : Int)) = false := decide_eq_false h3
              have hE : E = false := by simpa using h4
              have hk2 : decide ((k : Int) + 1 < (n : Int)) = false := decide_eq_false (by omega)
              clear h1 h4 h2 h3 h5 HNX
              subst hE
              go_enter Tryd.func22, Tryd.ntmps22
              go_upto_region 1 with (fail)
              rw [← hw, ← hgp]
              clear hw hgp
              go_upto_region 4 with (fail)
              rw [← hw2, ← hgi]
              clear hgi hw2 p0 v0 v1 v2 v3 v4
              go_wp2_with (first | (go_at_call 40; refine CT.out.mono ?_; rintro e V1 ⟨rfl, hb1⟩; have HV1 := Lib.hid (show Below W2.heap.size W2 V1 from hb1); have i4 := I4.out V1 hb1; have i0c := I0.out V1 hb1; have g0 := G0.out V1 hb1; clear hb1) | (go_at_call 41; refine (CE.out V1 HV1.out).mono ?_; rintro e V3 ⟨rfl, hb3⟩; have HV3 := Lib.hid (HV1.out.trans (hb3.mono HV1.out.size)); have g3 := G0.out V3 HV3.out; clear hb3) | (go_at_call 38; refine (sort_any (l := upI TL) (by rw [HTL.out]; have h := (HON.out V3); simpa [ints, upI] using h) (by rw [HB2E.out]; exact HV3.out.size) (by decide)).mono ?_; rintro e V5 ⟨rfl, ho5, hb5⟩; have HO5 := Lib.hid ho5; have HV5 := Lib.hid (HV3.out.trans (by rw [← HB2E.out]; exact hb5)); clear ho5 hb5) | (go_at_call 39; refine (compact_any HO5.out).mono ?_; rintro e V6 ⟨rfl, ho6, hb6⟩; have HO6 := Lib.hid ho6; have HV6 := Lib.hid (HV5.out.trans (by rw [← HB2E.out]; exact hb6)); clear ho6 hb6))
              go_ret
              rw [HRES.out]
              exact RowOut.of (own_base HO6.out (by rw [HB2E.out]; exact HBW2.out.size)) rfl (HBW2.out.trans (HV6.out.mono HBW2.out.size))
      · by_cases h4 : E = true
        · have HRES := Lib.hid (show nxZ f.code (k : Int) = srtN ([] ++ []) by rw [HNX.out, if_neg (fun h => h2 h.2.1), if_neg (fun h => by rw [h4] at h; cases h.1)])
          obtain ⟨TL, HTL⟩ : ∃ l, Hid (l = [] ++ []) := ⟨_, Lib.hid rfl⟩
          rw [← HTL.out] at HRES
          have hT1 : (T == 1) = true := by simpa using h1
          have hx0 : decide (0 ≤ x) = false := decide_eq_false h2
          have hE : E = true := h4
          clear h1 h4 h2 HNX
          subst hE
          go_enter Tryd.func22, Tryd.ntmps22
          go_upto_region 1 with (fail)
          rw [← hw, ← hgp]
          clear hw hgp
          go_upto_region 4 with (fail)
          rw [← hw2, ← hgi]
          clear hgi hw2 p0 v0 v1 v2 v3 v4
          go_wp2_with (first | (go_at_call 40; refine CT.out.mono ?_; rintro e V1 ⟨rfl, hb1⟩; have HV1 := Lib.hid (show Below W2.heap.size W2 V1 from hb1); have i4 := I4.out V1 hb1; have i0c := I0.out V1 hb1; have g0 := G0.out V1 hb1; clear hb1) | (go_at_call 41; refine (CE.out V1 HV1.out).mono ?_; rintro e V3 ⟨rfl, hb3⟩; have HV3 := Lib.hid (HV1.out.trans (hb3.mono HV1.out.size)); have g3 := G0.out V3 HV3.out; clear hb3) | (go_at_call 38; refine (sort_any (l := upI TL) (by rw [HTL.out]; have h := (HON.out V3); simpa [ints, upI] using h) (by rw [HB2E.out]; exact HV3.out.size) (by decide)).mono ?_; rintro e V5 ⟨rfl, ho5, hb5⟩; have HO5 := Lib.hid ho5; have HV5 := Lib.hid (HV3.out.trans (by rw [← HB2E.out]; exact hb5)); clear ho5 hb5) | (go_at_call 39; refine (compact_any HO5.out).mono ?_; rintro e V6 ⟨rfl, ho6, hb6⟩; have HO6 := Lib.hid ho6; have HV6 := Lib.hid (HV5.out.trans (by rw [← HB2E.out]; exact hb6)); clear ho6 hb6))
          go_ret
          rw [HRES.out]
          exact RowOut.of (own_base HO6.out (by rw [HB2E.out]; exact HBW2.out.size)) rfl (HBW2.out.trans (HV6.out.mono HBW2.out.size))
        · by_cases h5 : k + 1 < n
          · have HRES := Lib.hid (show nxZ f.code (k : Int) = srtN ([] ++ [k + 1]) by rw [HNX.out, if_neg (fun h => h2 h.2.1), if_pos ⟨by simpa using h4, h5⟩])
            obtain ⟨TL, HTL⟩ : ∃ l, Hid (l = [] ++ [k + 1]) := ⟨_, Lib.hid rfl⟩
            rw [← HTL.out] at HRES
            have hT1 : (T == 1) = true := by simpa using h1
            have hx0 : decide (0 ≤ x) = false := decide_eq_false h2
            have hE : E = false := by simpa using h4
            have hk2 : decide ((k : Int) + 1 < (n : Int)) = true := decide_eq_true (by omega)
            clear h1 h4 h2 h5 HNX
            subst hE
            go_enter Tryd.func22, Tryd.ntmps22
            go_upto_region 1 with (fail)
            rw [← hw, ← hgp]
            clear hw hgp
            go_upto_region 4 with (fail)
            rw [← hw2, ← hgi]
            clear hgi hw2 p0 v0 v1 v2 v3 v4
            go_wp2_with (first | (go_at_call 40; refine CT.out.mono ?_; rintro e V1 ⟨rfl, hb1⟩; have HV1 := Lib.hid (show Below W2.heap.size W2 V1 from hb1); have i4 := I4.out V1 hb1; have i0c := I0.out V1 hb1; have g0 := G0.out V1 hb1; clear hb1) | (go_at_call 41; refine (CE.out V1 HV1.out).mono ?_; rintro e V3 ⟨rfl, hb3⟩; have HV3 := Lib.hid (HV1.out.trans (hb3.mono HV1.out.size)); have g3 := G0.out V3 HV3.out; clear hb3) | (at_builtin; go_must (refine wpList_append_1 _ rfl _ _ 51 rfl B2 3 i0 _ 1 8 Tryd.underlying51 HI.out HZ0.out HZ1.out HZ2.out rfl (by decide) _ _ _ _ rfl ((HON.out V3).alloc _) ⟨V3.heap.size, 0, none⟩ 1 [.int .i64 ((k : Int) + 1)] rfl rfl (cell_one_new _ _ _) (by simp [Value.oneCell']) (by decide) (by decide) (by rw [World.size_alloc]; have h1 := HV3.out.size; have h2 := HB2E.out; omega) ?_); intro A4 c4 V4 hown hgrow hat; have HO4 := Lib.hid hown; have HV4 := Lib.hid (below_append HV3.out (HON.out V3) (by rw [HB2E.out]; exact Nat.le_refl _) HV3.out.size hgrow); clear hown hgrow hat; have i0v4 := I0.out V4 HV4.out; have g0v4 := G0.out V4 HV4.out) | (go_at_call 38; refine (sort_any (l := upI TL) (by rw [HTL.out]; have h := HO4.out; simpa [ints, upI] using h) (by rw [HB2E.out]; exact HV4.out.size) (by decide)).mono ?_; rintro e V5 ⟨rfl, ho5, hb5⟩; have HO5 := Lib.hid ho5; have HV5 := Lib.hid (HV4.out.trans (by rw [← HB2E.out]; exact hb5)); clear ho5 hb5) | (go_at_call 39; refine (compact_any HO5.out).mono ?_; rintro e V6 ⟨rfl, ho6, hb6⟩; have HO6 := Lib.hid ho6; have HV6 := Lib.hid (HV5.out.trans (by rw [← HB2E.out]; exact hb6)); clear ho6 hb6))
            go_ret
            rw [HRES.out]
            exact RowOut.of (own_base HO6.out (by rw [HB2E.out]; exact HBW2.out.size)) rfl (HBW2.out.trans (HV6.out.mono HBW2.out.size))
          · have HRES := Lib.hid (show nxZ f.code (k : Int) = srtN ([] ++ []) by rw [HNX.out, if_neg (fun h => h2 h.2.1), if_neg (fun h => h5 h.2)])
            obtain ⟨TL, HTL⟩ : ∃ l, Hid (l = [] ++ []) := ⟨_, Lib.hid rfl⟩
            rw [← HTL.out] at HRES
            have hT1 : (T == 1) = true := by simpa using h1
            have hx0 : decide (0 ≤ x) = false := decide_eq_false h2
            have hE : E = false := by simpa using h4
            have hk2 : decide ((k : Int) + 1 < (n : Int)) = false := decide_eq_false (by omega)
            clear h1 h4 h2 h5 HNX
            subst hE
            go_enter Tryd.func22, Tryd.ntmps22
            go_upto_region 1 with (fail)
            rw [← hw, ← hgp]
            clear hw hgp
            go_upto_region 4 with (fail)
            rw [← hw2, ← hgi]
            clear hgi hw2 p0 v0 v1 v2 v3 v4
            go_wp2_with (first | (go_at_call 40; refine CT.out.mono ?_; rintro e V1 ⟨rfl, hb1⟩; have HV1 := Lib.hid (show Below W2.heap.size W2 V1 from hb1); have i4 := I4.out V1 hb1; have i0c := I0.out V1 hb1; have g0 := G0.out V1 hb1; clear hb1) | (go_at_call 41; refine (CE.out V1 HV1.out).mono ?_; rintro e V3 ⟨rfl, hb3⟩; have HV3 := Lib.hid (HV1.out.trans (hb3.mono HV1.out.size)); have g3 := G0.out V3 HV3.out; clear hb3) | (go_at_call 38; refine (sort_any (l := upI TL) (by rw [HTL.out]; have h := (HON.out V3); simpa [ints, upI] using h) (by rw [HB2E.out]; exact HV3.out.size) (by decide)).mono ?_; rintro e V5 ⟨rfl, ho5, hb5⟩; have HO5 := Lib.hid ho5; have HV5 := Lib.hid (HV3.out.trans (by rw [← HB2E.out]; exact hb5)); clear ho5 hb5) | (go_at_call 39; refine (compact_any HO5.out).mono ?_; rintro e V6 ⟨rfl, ho6, hb6⟩; have HO6 := Lib.hid ho6; have HV6 := Lib.hid (HV5.out.trans (by rw [← HB2E.out]; exact hb6)); clear ho6 hb6))
            go_ret
            rw [HRES.out]
            exact RowOut.of (own_base HO6.out (by rw [HB2E.out]; exact HBW2.out.size)) rfl (HBW2.out.trans (HV6.out.mono HBW2.out.size))
    · by_cases h4 : E = true
      · have HRES := Lib.hid (show nxZ f.code (k : Int) = srtN ([] ++ []) by rw [HNX.out, if_neg (fun h => h1 h.1), if_neg (fun h => by rw [h4] at h; cases h.1)])
        obtain ⟨TL, HTL⟩ : ∃ l, Hid (l = [] ++ []) := ⟨_, Lib.hid rfl⟩
        rw [← HTL.out] at HRES
        have hT1 : (T == 1) = false := by simpa using h1
        have hE : E = true := h4
        clear h1 h4 HNX
        subst hE
        go_enter Tryd.func22, Tryd.ntmps22
        go_upto_region 1 with (fail)
        rw [← hw, ← hgp]
        clear hw hgp
        go_upto_region 4 with (fail)
        rw [← hw2, ← hgi]
        clear hgi hw2 p0 v0 v1 v2 v3 v4
        go_wp2_with (first | (go_at_call 40; refine CT.out.mono ?_; rintro e V1 ⟨rfl, hb1⟩; have HV1 := Lib.hid (show Below W2.heap.size W2 V1 from hb1); have i4 := I4.out V1 hb1; have i0c := I0.out V1 hb1; have g0 := G0.out V1 hb1; clear hb1) | (go_at_call 41; refine (CE.out V1 HV1.out).mono ?_; rintro e V3 ⟨rfl, hb3⟩; have HV3 := Lib.hid (HV1.out.trans (hb3.mono HV1.out.size)); have g3 := G0.out V3 HV3.out; clear hb3) | (go_at_call 38; refine (sort_any (l := upI TL) (by rw [HTL.out]; have h := (HON.out V3); simpa [ints, upI] using h) (by rw [HB2E.out]; exact HV3.out.size) (by decide)).mono ?_; rintro e V5 ⟨rfl, ho5, hb5⟩; have HO5 := Lib.hid ho5; have HV5 := Lib.hid (HV3.out.trans (by rw [← HB2E.out]; exact hb5)); clear ho5 hb5) | (go_at_call 39; refine (compact_any HO5.out).mono ?_; rintro e V6 ⟨rfl, ho6, hb6⟩; have HO6 := Lib.hid ho6; have HV6 := Lib.hid (HV5.out.trans (by rw [← HB2E.out]; exact hb6)); clear ho6 hb6))
        go_ret
        rw [HRES.out]
        exact RowOut.of (own_base HO6.out (by rw [HB2E.out]; exact HBW2.out.size)) rfl (HBW2.out.trans (HV6.out.mono HBW2.out.size))
      · by_cases h5 : k + 1 < n
        · have HRES := Lib.hid (show nxZ f.code (k : Int) = srtN ([] ++ [k + 1]) by rw [HNX.out, if_neg (fun h => h1 h.1), if_pos ⟨by simpa using h4, h5⟩])
          obtain ⟨TL, HTL⟩ : ∃ l, Hid (l = [] ++ [k + 1]) := ⟨_, Lib.hid rfl⟩
          rw [← HTL.out] at HRES
          have hT1 : (T == 1) = false := by simpa using h1
          have hE : E = false := by simpa using h4
          have hk2 : decide ((k : Int) + 1 < (n : Int)) = true := decide_eq_true (by omega)
          clear h1 h4 h5 HNX
          subst hE
          go_enter Tryd.func22, Tryd.ntmps22
          go_upto_region 1 with (fail)
          rw [← hw, ← hgp]
          clear hw hgp
          go_upto_region 4 with (fail)
          rw [← hw2, ← hgi]
          clear hgi hw2 p0 v0 v1 v2 v3 v4
          go_wp2_with (first | (go_at_call 40; refine CT.out.mono ?_; rintro e V1 ⟨rfl, hb1⟩; have HV1 := Lib.hid (show Below W2.heap.size W2 V1 from hb1); have i4 := I4.out V1 hb1; have i0c := I0.out V1 hb1; have g0 := G0.out V1 hb1; clear hb1) | (go_at_call 41; refine (CE.out V1 HV1.out).mono ?_; rintro e V3 ⟨rfl, hb3⟩; have HV3 := Lib.hid (HV1.out.trans (hb3.mono HV1.out.size)); have g3 := G0.out V3 HV3.out; clear hb3) | (at_builtin; go_must (refine wpList_append_1 _ rfl _ _ 51 rfl B2 3 i0 _ 1 8 Tryd.underlying51 HI.out HZ0.out HZ1.out HZ2.out rfl (by decide) _ _ _ _ rfl ((HON.out V3).alloc _) ⟨V3.heap.size, 0, none⟩ 1 [.int .i64 ((k : Int) + 1)] rfl rfl (cell_one_new _ _ _) (by simp [Value.oneCell']) (by decide) (by decide) (by rw [World.size_alloc]; have h1 := HV3.out.size; have h2 := HB2E.out; omega) ?_); intro A4 c4 V4 hown hgrow hat; have HO4 := Lib.hid hown; have HV4 := Lib.hid (below_append HV3.out (HON.out V3) (by rw [HB2E.out]; exact Nat.le_refl _) HV3.out.size hgrow); clear hown hgrow hat; have i0v4 := I0.out V4 HV4.out; have g0v4 := G0.out V4 HV4.out) | (go_at_call 38; refine (sort_any (l := upI TL) (by rw [HTL.out]; have h := HO4.out; simpa [ints, upI] using h) (by rw [HB2E.out]; exact HV4.out.size) (by decide)).mono ?_; rintro e V5 ⟨rfl, ho5, hb5⟩; have HO5 := Lib.hid ho5; have HV5 := Lib.hid (HV4.out.trans (by rw [← HB2E.out]; exact hb5)); clear ho5 hb5) | (go_at_call 39; refine (compact_any HO5.out).mono ?_; rintro e V6 ⟨rfl, ho6, hb6⟩; have HO6 := Lib.hid ho6; have HV6 := Lib.hid (HV5.out.trans (by rw [← HB2E.out]; exact hb6)); clear ho6 hb6))
          go_ret
          rw [HRES.out]
          exact RowOut.of (own_base HO6.out (by rw [HB2E.out]; exact HBW2.out.size)) rfl (HBW2.out.trans (HV6.out.mono HBW2.out.size))
        · have HRES := Lib.hid (show nxZ f.code (k : Int) = srtN ([] ++ []) by rw [HNX.out, if_neg (fun h => h1 h.1), if_neg (fun h => h5 h.2)])
          obtain ⟨TL, HTL⟩ : ∃ l, Hid (l = [] ++ []) := ⟨_, Lib.hid rfl⟩
          rw [← HTL.out] at HRES
          have hT1 : (T == 1) = false := by simpa using h1
          have hE : E = false := by simpa using h4
          have hk2 : decide ((k : Int) + 1 < (n : Int)) = false := decide_eq_false (by omega)
          clear h1 h4 h5 HNX
          subst hE
          go_enter Tryd.func22, Tryd.ntmps22
          go_upto_region 1 with (fail)
          rw [← hw, ← hgp]
          clear hw hgp
          go_upto_region 4 with (fail)
          rw [← hw2, ← hgi]
          clear hgi hw2 p0 v0 v1 v2 v3 v4
          go_wp2_with (first | (go_at_call 40; refine CT.out.mono ?_; rintro e V1 ⟨rfl, hb1⟩; have HV1 := Lib.hid (show Below W2.heap.size W2 V1 from hb1); have i4 := I4.out V1 hb1; have i0c := I0.out V1 hb1; have g0 := G0.out V1 hb1; clear hb1) | (go_at_call 41; refine (CE.out V1 HV1.out).mono ?_; rintro e V3 ⟨rfl, hb3⟩; have HV3 := Lib.hid (HV1.out.trans (hb3.mono HV1.out.size)); have g3 := G0.out V3 HV3.out; clear hb3) | (go_at_call 38; refine (sort_any (l := upI TL) (by rw [HTL.out]; have h := (HON.out V3); simpa [ints, upI] using h) (by rw [HB2E.out]; exact HV3.out.size) (by decide)).mono ?_; rintro e V5 ⟨rfl, ho5, hb5⟩; have HO5 := Lib.hid ho5; have HV5 := Lib.hid (HV3.out.trans (by rw [← HB2E.out]; exact hb5)); clear ho5 hb5) | (go_at_call 39; refine (compact_any HO5.out).mono ?_; rintro e V6 ⟨rfl, ho6, hb6⟩; have HO6 := Lib.hid ho6; have HV6 := Lib.hid (HV5.out.trans (by rw [← HB2E.out]; exact hb6)); clear ho6 hb6))
          go_ret
          rw [HRES.out]
          exact RowOut.of (own_base HO6.out (by rw [HB2E.out]; exact HBW2.out.size)) rfl (HBW2.out.trans (HV6.out.mono HBW2.out.size))
  · have hz : nxZ f.code pc = [] := by
      unfold nxZ
      split
      · unfold nxN
        rw [dif_neg (by have := HN.out; omega)]
      · rfl
    rw [hz]
    have HZ := Lib.hid (Own.nil W w.heap.size 3 1)
    by_cases h0 : pc < 0
    · clear hT hf hz hin
      go_enter Tryd.func22, Tryd.ntmps22
      go_wp2_with fail
      go_ret
      rw [← hw]
      exact ⟨none, 0, rfl, HZ.out, HBW.out⟩
    · have h1 : (n : Int) ≤ pc := by omega
      clear hT hf hz hin
      go_enter Tryd.func22, Tryd.ntmps22
      go_wp2_with fail
      go_ret
      rw [← hw]
      exact ⟨none, 0, rfl, HZ.out, HBW.out⟩
end Go.Proofs.YtfgaonkoaolffaaDoor

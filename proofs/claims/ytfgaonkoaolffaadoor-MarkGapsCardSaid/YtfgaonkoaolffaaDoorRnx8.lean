/-
  Chapter 8: the reference's Next, Open. Conditions: the function lies in memory.
-/
import Derived.Test.YtfgaonkoaolffaaDoorIns8
import Derived.Test.YtfgaonkoaolffaaDoorRef06b
import Derived.Test.YtfgaonkoaolffaaDoorEnv8
namespace Go.Proofs.YtfgaonkoaolffaaDoor
open Go.RowKit
theorem to_place (op : Int) : opTarget op = 1 ↔ op = 6 ∨ op = 7 := by
  by_cases h : 0 ≤ op ∧ op < 24
  · obtain ⟨k, rfl⟩ : ∃ k : Nat, op = (k : Int) := ⟨op.toNat, by omega⟩
    have hk : k < 24 := by omega
    have : ∀ k : Fin 24, (opTarget (k.1 : Int) = 1 ↔ (k.1 : Int) = 6 ∨ (k.1 : Int) = 7) := by decide +kernel
    exact this ⟨k, hk⟩
  · have e : opTarget op = 0 := by simp [opTarget, opRow_out op (by omega)]; rfl
    rw [e]
    constructor
    · intro h; cases h
    · intro h1; omega
theorem NewRow.nil (w0 w : World) : NewRow w0 w none 0 0 [] := ⟨rfl, Own.nil _ _ _ _, Nat.le_refl _⟩
theorem NewRow.keep {w0 w w' : World} {A : Option Addr} {n c : Nat} {l : List Nat} (h : NewRow w0 w A n c l) (hb : Below w.heap.size w w') : NewRow w0 w' A n c l := ⟨h.1, own_low h.2.1 hb, h.2.2⟩
theorem NewRow.out {w0 w2 w : World} {A : Option Addr} {n c : Nat} {l : List Nat} (h : NewRow w2 w A n c l) (h0 : Below w0.heap.size w0 w2) (hb : Below w2.heap.size w2 w) : RowOut w0 l (.returned (.slice A n c)) w := by
  obtain ⟨rfl, h2, h3⟩ := h
  exact ⟨A, c, rfl, own_base h2 h0.size, h0.trans (hb.mono h0.size)⟩
set_option maxRecDepth 10000 in
set_option maxHeartbeats 4000000 in
theorem rnext_any {w : World} {C S : Option Addr} {n c m d : Nat} {f : Fn} (hf : FnOk w w.heap.size ⟨C, n, c, S, m, d⟩ f) (hfl : n ≤ 70) (pc : Int) :
    Calls Tryd.prog 28 #[.agg #[.slice C n c, .slice S m d], .int .i64 pc] w (RowOut w (nxZ f.code pc)) := by
  obtain ⟨W, HW⟩ : ∃ W, Hid (W = w.alloc (.cells #[.slice C n c, .slice S m d] 39)) := ⟨_, Lib.hid rfl⟩
  obtain ⟨gp, HGP⟩ : ∃ q, Hid (q = w.heap.size) := ⟨_, Lib.hid rfl⟩
  have HBW := Lib.hid (show Below w.heap.size w W by rw [HW.out]; exact (Below.refl _ w).alloc (Nat.le_refl _) _)
  have HP := Lib.hid (show Blk W gp 39 #[.slice C n c, .slice S m d] by rw [HW.out, HGP.out]; exact Blk.new w _ _)
  have HN := Lib.hid (show n = f.code.length from hf.1)
  have p0 : W.cell? ⟨gp, 0, none⟩ = some (.slice C n c) := (HP.out.cell 0).trans rfl
  have hw := HW.out
  have hgp := HGP.out
  by_cases hin : 0 ≤ pc ∧ pc < n
  · obtain ⟨k, rfl⟩ : ∃ k : Nat, pc = (k : Int) := ⟨pc.toNat, by omega⟩
    have hkn : k < n := by omega
    have hkc : k < f.code.length := by rw [← hf.1]; exact hkn
    obtain ⟨b, off, hC, hbl, v0, v1, v2, v3, v4⟩ := (hf.below HBW.out).ins5 k hkc
    have HIOK := hf.2.2.2.2.2.2 f.code[k] (List.getElem_mem _)
    obtain ⟨i, HIE⟩ : ∃ i, Hid (i = f.code[k]) := ⟨_, Lib.hid rfl⟩
    rw [← HIE.out] at v0 v1 v2 v3 v4 HIOK
    have HNX := Lib.hid (show nxZ f.code (k : Int) = (tgtN n i ++ onN n k i).foldl addN [] by
      rw [nxZ_nat]
      unfold nxN
      rw [dif_pos hkc, ← HIE.out, ← HN.out]
      rfl)
    have hC' : C = some ⟨b, off, none⟩ := hC
    subst hC'
    obtain ⟨op, ra, rb, rc, x⟩ := i
    simp only at v0 v1 v2 v3 v4 HIOK
    obtain ⟨W2, HW2⟩ : ∃ W2, Hid (W2 = W.alloc (.cells #[.int .i64 op, .int .i64 ra, .int .i64 rb, .int .i64 rc, .int .i64 x] 43)) := ⟨_, Lib.hid rfl⟩
    obtain ⟨gi, HGI⟩ : ∃ q, Hid (q = W.heap.size) := ⟨_, Lib.hid rfl⟩
    have HBW2 := Lib.hid (show Below w.heap.size w W2 by rw [HW2.out]; exact HBW.out.alloc HBW.out.size _)
    have HP2 := Lib.hid (show Blk W2 gp 39 #[.slice (some ⟨b, off, none⟩) n c, .slice S m d] by rw [HW2.out]; exact HP.out.alloc _)
    have HI2 := Lib.hid (show Blk W2 gi 43 #[.int .i64 op, .int .i64 ra, .int .i64 rb, .int .i64 rc, .int .i64 x] by rw [HW2.out, HGI.out]; exact Blk.new W _ _)
    have G0 := Lib.hid (show ∀ V, Below W2.heap.size W2 V → V.cell? ⟨gp, 0, none⟩ = some (.slice (some ⟨b, off, none⟩) n c) from fun V h => ((HP2.out.below h HP2.out.lt).cell 0).trans rfl)
    have I0 := Lib.hid (show ∀ V, Below W2.heap.size W2 V → V.cell? ⟨gi, 0, none⟩ = some (.int .i64 op) from fun V h => ((HI2.out.below h HI2.out.lt).cell 0).trans rfl)
    have I4 := Lib.hid (show ∀ V, Below W2.heap.size W2 V → V.cell? ⟨gi, 4, none⟩ = some (.int .i64 x) from fun V h => ((HI2.out.below h HI2.out.lt).cell 4).trans rfl)
    obtain ⟨E, HEE⟩ : ∃ x, Hid (x = opEnds op) := ⟨_, Lib.hid rfl⟩
    have CE := Lib.hid (fun (V : World) => rends_any op V)
    simp only [← HEE.out] at CE
    unfold tgtN onN at HNX
    simp only [← HEE.out] at HNX
    have hw2 := HW2.out
    have hgi := HGI.out
    have i0 := I0.out W2 (Below.refl _ _)
    have i4 := I4.out W2 (Below.refl _ _)
    have g0 := G0.out W2 (Below.refl _ _)
    have HADD := Lib.hid (fun (V : World) (A : Option Addr) (n c : Nat) (l : List Nat) (y : Nat) (h : NewRow W2 V A n c l) (hl : l.length ≤ 1000) (h0 : W2.heap.size ≤ V.heap.size) => add_any l y h hl h0)
    clear hf hC HIOK hin
    by_cases h1 : op = 6
    · have o6 : (op == 6) = true := by simpa using h1
      have HOP := Lib.hid (show op = 6 ∨ op = 7 from .inl h1)
      clear h1
      by_cases h2 : 0 ≤ x
      · by_cases h3 : x < (n : Int)
        · have hx0 := Lib.hid h2
          have hxn := Lib.hid h3
          have b0 : decide (0 ≤ x) = true := decide_eq_true h2
          have b1 : decide (x < (n : Int)) = true := decide_eq_true h3
          have HA4 := Lib.hid (HADD.out W2 none 0 0 [] x.toNat (NewRow.nil W2 W2) (by decide) (Nat.le_refl _))
          rw [show ((x.toNat : Nat) : Int) = x by omega] at HA4
          by_cases h4 : E = true
          · have HRES := Lib.hid (show nxZ f.code (k : Int) = (addN [] x.toNat) by rw [HNX.out, if_pos ⟨(to_place op).2 HOP.out, hx0.out, hxn.out⟩, if_neg (fun h => by rw [h4] at h; cases h.1)]; rfl)
            have hE : E = true := h4
            clear h4 h2 h3 HNX
            subst hE
            go_enter Tryd.func28, Tryd.ntmps28
            go_upto_region 1 with (fail)
            rw [← hw, ← hgp]
            clear hw hgp
            go_upto_region 4 with (fail)
            rw [← hw2, ← hgi]
            clear hgi hw2 p0 v0 v1 v2 v3 v4
            go_upto_region 7 with (go_at_call 44; refine HA4.out.mono ?_; rintro e V4 ⟨A4, c4, rfl, ho, hb⟩; have HO4 := Lib.hid ho; have HV4 := Lib.hid hb; clear ho hb; have i0' := I0.out V4 HV4.out; have g0' := G0.out V4 HV4.out)
            go_wp2_with (first | (go_at_call 33; refine (CE.out _).mono ?_; rintro e V5 ⟨rfl, rfl⟩))
            go_ret
            rw [HRES.out]
            exact NewRow.out HO4.out HBW2.out HV4.out
          · by_cases h5 : k + 1 < n
            · have HRES := Lib.hid (show nxZ f.code (k : Int) = addN (addN [] x.toNat) (k + 1) by rw [HNX.out, if_pos ⟨(to_place op).2 HOP.out, hx0.out, hxn.out⟩, if_pos ⟨by simpa using h4, h5⟩]; rfl)
              have hE : E = false := by simpa using h4
              have hk2 : decide ((k : Int) + 1 < (n : Int)) = true := decide_eq_true (by omega)
              clear h4 h5 h2 h3 HNX
              subst hE
              go_enter Tryd.func28, Tryd.ntmps28
              go_upto_region 1 with (fail)
              rw [← hw, ← hgp]
              clear hw hgp
              go_upto_region 4 with (fail)
              rw [← hw2, ← hgi]
              clear hgi hw2 p0 v0 v1 v2 v3 v4
              go_upto_region 7 with (go_at_call 44; refine HA4.out.mono ?_; rintro e V4 ⟨A4, c4, rfl, ho, hb⟩; have HO4 := Lib.hid ho; have HV4 := Lib.hid hb; clear ho hb; have i0' := I0.out V4 HV4.out; have g0' := G0.out V4 HV4.out)
              go_wp2_with (first | (go_at_call 33; refine (CE.out _).mono ?_; rintro e V5 ⟨rfl, rfl⟩) | (go_at_call 44; refine (HADD.out _ _ _ _ _ (k + 1) HO4.out (by simp [addN]) HV4.out.size).mono ?_; rintro e V6 ⟨A6, c6, rfl, ho, hb⟩; have HO6 := Lib.hid ho; have HV6 := Lib.hid hb; clear ho hb))
              go_ret
              rw [HRES.out]
              exact NewRow.out HO6.out HBW2.out (HV4.out.trans (HV6.out.mono HV4.out.size))
            · have HRES := Lib.hid (show nxZ f.code (k : Int) = (addN [] x.toNat) by rw [HNX.out, if_pos ⟨(to_place op).2 HOP.out, hx0.out, hxn.out⟩, if_neg (fun h => h5 h.2)]; rfl)
              have hE : E = false := by simpa using h4
              have hk2 : decide ((k : Int) + 1 < (n : Int)) = false := decide_eq_false (by omega)
              clear h4 h5 h2 h3 HNX
              subst hE
              go_enter Tryd.func28, Tryd.ntmps28
              go_upto_region 1 with (fail)
              rw [← hw, ← hgp]
              clear hw hgp
              go_upto_region 4 with (fail)
              rw [← hw2, ← hgi]
              clear hgi hw2 p0 v0 v1 v2 v3 v4
              go_upto_region 7 with (go_at_call 44; refine HA4.out.mono ?_; rintro e V4 ⟨A4, c4, rfl, ho, hb⟩; have HO4 := Lib.hid ho; have HV4 := Lib.hid hb; clear ho hb; have i0' := I0.out V4 HV4.out; have g0' := G0.out V4 HV4.out)
              go_wp2_with (first | (go_at_call 33; refine (CE.out _).mono ?_; rintro e V5 ⟨rfl, rfl⟩))
              go_ret
              rw [HRES.out]
              exact NewRow.out HO4.out HBW2.out HV4.out
        · have hxn := Lib.hid h3
          have b0 : decide (0 ≤ x) = true := decide_eq_true h2
          have b1 : decide (x < (n : Int)) = false := decide_eq_false h3
          have HV0 := Lib.hid (Below.refl W2.heap.size W2)
          by_cases h4 : E = true
          · have HRES := Lib.hid (show nxZ f.code (k : Int) = [] by rw [HNX.out, if_neg (fun h => hxn.out h.2.2), if_neg (fun h => by rw [h4] at h; cases h.1)]; rfl)
            have hE : E = true := h4
            clear h4 h2 h3 HNX
            subst hE
            go_enter Tryd.func28, Tryd.ntmps28
            go_upto_region 1 with (fail)
            rw [← hw, ← hgp]
            clear hw hgp
            go_upto_region 4 with (fail)
            rw [← hw2, ← hgi]
            clear hgi hw2 p0 v0 v1 v2 v3 v4
            go_wp2_with (first | (go_at_call 33; refine (CE.out _).mono ?_; rintro e V5 ⟨rfl, rfl⟩))
            go_ret
            rw [HRES.out]
            exact NewRow.out (NewRow.nil W2 W2) HBW2.out HV0.out
          · by_cases h5 : k + 1 < n
            · have HRES := Lib.hid (show nxZ f.code (k : Int) = addN [] (k + 1) by rw [HNX.out, if_neg (fun h => hxn.out h.2.2), if_pos ⟨by simpa using h4, h5⟩]; rfl)
              have hE : E = false := by simpa using h4
              have hk2 : decide ((k : Int) + 1 < (n : Int)) = true := decide_eq_true (by omega)
              clear h4 h5 h2 h3 HNX
              subst hE
              go_enter Tryd.func28, Tryd.ntmps28
              go_upto_region 1 with (fail)
              rw [← hw, ← hgp]
              clear hw hgp
              go_upto_region 4 with (fail)
              rw [← hw2, ← hgi]
              clear hgi hw2 p0 v0 v1 v2 v3 v4
              go_wp2_with (first | (go_at_call 33; refine (CE.out _).mono ?_; rintro e V5 ⟨rfl, rfl⟩) | (go_at_call 44; refine (HADD.out _ _ _ _ _ (k + 1) (NewRow.nil W2 W2) (by decide) (Nat.le_refl _)).mono ?_; rintro e V6 ⟨A6, c6, rfl, ho, hb⟩; have HO6 := Lib.hid ho; have HV6 := Lib.hid hb; clear ho hb))
              go_ret
              rw [HRES.out]
              exact NewRow.out HO6.out HBW2.out HV6.out
            · have HRES := Lib.hid (show nxZ f.code (k : Int) = [] by rw [HNX.out, if_neg (fun h => hxn.out h.2.2), if_neg (fun h => h5 h.2)]; rfl)
              have hE : E = false := by simpa using h4
              have hk2 : decide ((k : Int) + 1 < (n : Int)) = false := decide_eq_false (by omega)
              clear h4 h5 h2 h3 HNX
              subst hE
              go_enter Tryd.func28, Tryd.ntmps28
              go_upto_region 1 with (fail)
              rw [← hw, ← hgp]
              clear hw hgp
              go_upto_region 4 with (fail)
              rw [← hw2, ← hgi]
              clear hgi hw2 p0 v0 v1 v2 v3 v4
              go_wp2_with (first | (go_at_call 33; refine (CE.out _).mono ?_; rintro e V5 ⟨rfl, rfl⟩))
              go_ret
              rw [HRES.out]
              exact NewRow.out (NewRow.nil W2 W2) HBW2.out HV0.out
      · have hx0 := Lib.hid h2
        have b0 : decide (0 ≤ x) = false := decide_eq_false h2
        have HV0 := Lib.hid (Below.refl W2.heap.size W2)
        by_cases h4 : E = true
        · have HRES := Lib.hid (show nxZ f.code (k : Int) = [] by rw [HNX.out, if_neg (fun h => hx0.out h.2.1), if_neg (fun h => by rw [h4] at h; cases h.1)]; rfl)
          have hE : E = true := h4
          clear h4 h2 HNX
          subst hE
          go_enter Tryd.func28, Tryd.ntmps28
          go_upto_region 1 with (fail)
          rw [← hw, ← hgp]
          clear hw hgp
          go_upto_region 4 with (fail)
          rw [← hw2, ← hgi]
          clear hgi hw2 p0 v0 v1 v2 v3 v4
          go_wp2_with (first | (go_at_call 33; refine (CE.out _).mono ?_; rintro e V5 ⟨rfl, rfl⟩))
          go_ret
          rw [HRES.out]
          exact NewRow.out (NewRow.nil W2 W2) HBW2.out HV0.out
        · by_cases h5 : k + 1 < n
          · have HRES := Lib.hid (show nxZ f.code (k : Int) = addN [] (k + 1) by rw [HNX.out, if_neg (fun h => hx0.out h.2.1), if_pos ⟨by simpa using h4, h5⟩]; rfl)
            have hE : E = false := by simpa using h4
            have hk2 : decide ((k : Int) + 1 < (n : Int)) = true := decide_eq_true (by omega)
            clear h4 h5 h2 HNX
            subst hE
            go_enter Tryd.func28, Tryd.ntmps28
            go_upto_region 1 with (fail)
            rw [← hw, ← hgp]
            clear hw hgp
            go_upto_region 4 with (fail)
            rw [← hw2, ← hgi]
            clear hgi hw2 p0 v0 v1 v2 v3 v4
            go_wp2_with (first | (go_at_call 33; refine (CE.out _).mono ?_; rintro e V5 ⟨rfl, rfl⟩) | (go_at_call 44; refine (HADD.out _ _ _ _ _ (k + 1) (NewRow.nil W2 W2) (by decide) (Nat.le_refl _)).mono ?_; rintro e V6 ⟨A6, c6, rfl, ho, hb⟩; have HO6 := Lib.hid ho; have HV6 := Lib.hid hb; clear ho hb))
            go_ret
            rw [HRES.out]
            exact NewRow.out HO6.out HBW2.out HV6.out
          · have HRES := Lib.hid (show nxZ f.code (k : Int) = [] by rw [HNX.out, if_neg (fun h => hx0.out h.2.1), if_neg (fun h => h5 h.2)]; rfl)
            have hE : E = false := by simpa using h4
            have hk2 : decide ((k : Int) + 1 < (n : Int)) = false := decide_eq_false (by omega)
            clear h4 h5 h2 HNX
            subst hE
            go_enter Tryd.func28, Tryd.ntmps28
            go_upto_region 1 with (fail)
            rw [← hw, ← hgp]
            clear hw hgp
            go_upto_region 4 with (fail)
            rw [← hw2, ← hgi]
            clear hgi hw2 p0 v0 v1 v2 v3 v4
            go_wp2_with (first | (go_at_call 33; refine (CE.out _).mono ?_; rintro e V5 ⟨rfl, rfl⟩))
            go_ret
            rw [HRES.out]
            exact NewRow.out (NewRow.nil W2 W2) HBW2.out HV0.out
    · by_cases h1b : op = 7
      · have o6 : (op == 6) = false := by simpa using h1
        have o7 : (op == 7) = true := by simpa using h1b
        have HOP := Lib.hid (show op = 6 ∨ op = 7 from .inr h1b)
        clear h1 h1b
        by_cases h2 : 0 ≤ x
        · by_cases h3 : x < (n : Int)
          · have hx0 := Lib.hid h2
            have hxn := Lib.hid h3
            have b0 : decide (0 ≤ x) = true := decide_eq_true h2
            have b1 : decide (x < (n : Int)) = true := decide_eq_true h3
            have HA4 := Lib.hid (HADD.out W2 none 0 0 [] x.toNat (NewRow.nil W2 W2) (by decide) (Nat.le_refl _))
            rw [show ((x.toNat : Nat) : Int) = x by omega] at HA4
            by_cases h4 : E = true
            · have HRES := Lib.hid (show nxZ f.code (k : Int) = (addN [] x.toNat) by rw [HNX.out, if_pos ⟨(to_place op).2 HOP.out, hx0.out, hxn.out⟩, if_neg (fun h => by rw [h4] at h; cases h.1)]; rfl)
              have hE : E = true := h4
              clear h4 h2 h3 HNX
              subst hE
              go_enter Tryd.func28, Tryd.ntmps28
              go_upto_region 1 with (fail)
              rw [← hw, ← hgp]
              clear hw hgp
              go_upto_region 4 with (fail)
              rw [← hw2, ← hgi]
              clear hgi hw2 p0 v0 v1 v2 v3 v4
              go_upto_region 7 with (go_at_call 44; refine HA4.out.mono ?_; rintro e V4 ⟨A4, c4, rfl, ho, hb⟩; have HO4 := Lib.hid ho; have HV4 := Lib.hid hb; clear ho hb; have i0' := I0.out V4 HV4.out; have g0' := G0.out V4 HV4.out)
              go_wp2_with (first | (go_at_call 33; refine (CE.out _).mono ?_; rintro e V5 ⟨rfl, rfl⟩))
              go_ret
              rw [HRES.out]
              exact NewRow.out HO4.out HBW2.out HV4.out
            · by_cases h5 : k + 1 < n
              · have HRES := Lib.hid (show nxZ f.code (k : Int) = addN (addN [] x.toNat) (k + 1) by rw [HNX.out, if_pos ⟨(to_place op).2 HOP.out, hx0.out, hxn.out⟩, if_pos ⟨by simpa using h4, h5⟩]; rfl)
                have hE : E = false := by simpa using h4
                have hk2 : decide ((k : Int) + 1 < (n : Int)) = true := decide_eq_true (by omega)
                clear h4 h5 h2 h3 HNX
                subst hE
                go_enter Tryd.func28, Tryd.ntmps28
                go_upto_region 1 with (fail)
                rw [← hw, ← hgp]
                clear hw hgp
                go_upto_region 4 with (fail)
                rw [← hw2, ← hgi]
                clear hgi hw2 p0 v0 v1 v2 v3 v4
                go_upto_region 7 with (go_at_call 44; refine HA4.out.mono ?_; rintro e V4 ⟨A4, c4, rfl, ho, hb⟩; have HO4 := Lib.hid ho; have HV4 := Lib.hid hb; clear ho hb; have i0' := I0.out V4 HV4.out; have g0' := G0.out V4 HV4.out)
                go_wp2_with (first | (go_at_call 33; refine (CE.out _).mono ?_; rintro e V5 ⟨rfl, rfl⟩) | (go_at_call 44; refine (HADD.out _ _ _ _ _ (k + 1) HO4.out (by simp [addN]) HV4.out.size).mono ?_; rintro e V6 ⟨A6, c6, rfl, ho, hb⟩; have HO6 := Lib.hid ho; have HV6 := Lib.hid hb; clear ho hb))
                go_ret
                rw [HRES.out]
                exact NewRow.out HO6.out HBW2.out (HV4.out.trans (HV6.out.mono HV4.out.size))
              · have HRES := Lib.hid (show nxZ f.code (k : Int) = (addN [] x.toNat) by rw [HNX.out, if_pos ⟨(to_place op).2 HOP.out, hx0.out, hxn.out⟩, if_neg (fun h => h5 h.2)]; rfl)
                have hE : E = false := by simpa using h4
                have hk2 : decide ((k : Int) + 1 < (n : Int)) = false := decide_eq_false (by omega)
                clear h4 h5 h2 h3 HNX
                subst hE
                go_enter Tryd.func28, Tryd.ntmps28
                go_upto_region 1 with (fail)
                rw [← hw, ← hgp]
                clear hw hgp
                go_upto_region 4 with (fail)
                rw [← hw2, ← hgi]
                clear hgi hw2 p0 v0 v1 v2 v3 v4
                go_upto_region 7 with (go_at_call 44; refine HA4.out.mono ?_; rintro e V4 ⟨A4, c4, rfl, ho, hb⟩; have HO4 := Lib.hid ho; have HV4 := Lib.hid hb; clear ho hb; have i0' := I0.out V4 HV4.out; have g0' := G0.out V4 HV4.out)
                go_wp2_with (first | (go_at_call 33; refine (CE.out _).mono ?_; rintro e V5 ⟨rfl, rfl⟩))
                go_ret
                rw [HRES.out]
                exact NewRow.out HO4.out HBW2.out HV4.out
          · have hxn := Lib.hid h3
            have b0 : decide (0 ≤ x) = true := decide_eq_true h2
            have b1 : decide (x < (n : Int)) = false := decide_eq_false h3
            have HV0 := Lib.hid (Below.refl W2.heap.size W2)
            by_cases h4 : E = true
            · have HRES := Lib.hid (show nxZ f.code (k : Int) = [] by rw [HNX.out, if_neg (fun h => hxn.out h.2.2), if_neg (fun h => by rw [h4] at h; cases h.1)]; rfl)
              have hE : E = true := h4
              clear h4 h2 h3 HNX
              subst hE
              go_enter Tryd.func28, Tryd.ntmps28
              go_upto_region 1 with (fail)
              rw [← hw, ← hgp]
              clear hw hgp
              go_upto_region 4 with (fail)
              rw [← hw2, ← hgi]
              clear hgi hw2 p0 v0 v1 v2 v3 v4
              go_wp2_with (first | (go_at_call 33; refine (CE.out _).mono ?_; rintro e V5 ⟨rfl, rfl⟩))
              go_ret
              rw [HRES.out]
              exact NewRow.out (NewRow.nil W2 W2) HBW2.out HV0.out
            · by_cases h5 : k + 1 < n
              · have HRES := Lib.hid (show nxZ f.code (k : Int) = addN [] (k + 1) by rw [HNX.out, if_neg (fun h => hxn.out h.2.2), if_pos ⟨by simpa using h4, h5⟩]; rfl)
                have hE : E = false := by simpa using h4
                have hk2 : decide ((k : Int) + 1 < (n : Int)) = true := decide_eq_true (by omega)
                clear h4 h5 h2 h3 HNX
                subst hE
                go_enter Tryd.func28, Tryd.ntmps28
                go_upto_region 1 with (fail)
                rw [← hw, ← hgp]
                clear hw hgp
                go_upto_region 4 with (fail)
                rw [← hw2, ← hgi]
                clear hgi hw2 p0 v0 v1 v2 v3 v4
                go_wp2_with (first | (go_at_call 33; refine (CE.out _).mono ?_; rintro e V5 ⟨rfl, rfl⟩) | (go_at_call 44; refine (HADD.out _ _ _ _ _ (k + 1) (NewRow.nil W2 W2) (by decide) (Nat.le_refl _)).mono ?_; rintro e V6 ⟨A6, c6, rfl, ho, hb⟩; have HO6 := Lib.hid ho; have HV6 := Lib.hid hb; clear ho hb))
                go_ret
                rw [HRES.out]
                exact NewRow.out HO6.out HBW2.out HV6.out
              · have HRES := Lib.hid (show nxZ f.code (k : Int) = [] by rw [HNX.out, if_neg (fun h => hxn.out h.2.2), if_neg (fun h => h5 h.2)]; rfl)
                have hE : E = false := by simpa using h4
                have hk2 : decide ((k : Int) + 1 < (n : Int)) = false := decide_eq_false (by omega)
                clear h4 h5 h2 h3 HNX
                subst hE
                go_enter Tryd.func28, Tryd.ntmps28
                go_upto_region 1 with (fail)
                rw [← hw, ← hgp]
                clear hw hgp
                go_upto_region 4 with (fail)
                rw [← hw2, ← hgi]
                clear hgi hw2 p0 v0 v1 v2 v3 v4
                go_wp2_with (first | (go_at_call 33; refine (CE.out _).mono ?_; rintro e V5 ⟨rfl, rfl⟩))
                go_ret
                rw [HRES.out]
                exact NewRow.out (NewRow.nil W2 W2) HBW2.out HV0.out
        · have hx0 := Lib.hid h2
          have b0 : decide (0 ≤ x) = false := decide_eq_false h2
          have HV0 := Lib.hid (Below.refl W2.heap.size W2)
          by_cases h4 : E = true
          · have HRES := Lib.hid (show nxZ f.code (k : Int) = [] by rw [HNX.out, if_neg (fun h => hx0.out h.2.1), if_neg (fun h => by rw [h4] at h; cases h.1)]; rfl)
            have hE : E = true := h4
            clear h4 h2 HNX
            subst hE
            go_enter Tryd.func28, Tryd.ntmps28
            go_upto_region 1 with (fail)
            rw [← hw, ← hgp]
            clear hw hgp
            go_upto_region 4 with (fail)
            rw [← hw2, ← hgi]
            clear hgi hw2 p0 v0 v1 v2 v3 v4
            go_wp2_with (first | (go_at_call 33; refine (CE.out _).mono ?_; rintro e V5 ⟨rfl, rfl⟩))
            go_ret
            rw [HRES.out]
            exact NewRow.out (NewRow.nil W2 W2) HBW2.out HV0.out
          · by_cases h5 : k + 1 < n
            · have HRES := Lib.hid (show nxZ f.code (k : Int) = addN [] (k + 1) by rw [HNX.out, if_neg (fun h => hx0.out h.2.1), if_pos ⟨by simpa using h4, h5⟩]; rfl)
              have hE : E = false := by simpa using h4
              have hk2 : decide ((k : Int) + 1 < (n : Int)) = true := decide_eq_true (by omega)
              clear h4 h5 h2 HNX
              subst hE
              go_enter Tryd.func28, Tryd.ntmps28
              go_upto_region 1 with (fail)
              rw [← hw, ← hgp]
              clear hw hgp
              go_upto_region 4 with (fail)
              rw [← hw2, ← hgi]
              clear hgi hw2 p0 v0 v1 v2 v3 v4
              go_wp2_with (first | (go_at_call 33; refine (CE.out _).mono ?_; rintro e V5 ⟨rfl, rfl⟩) | (go_at_call 44; refine (HADD.out _ _ _ _ _ (k + 1) (NewRow.nil W2 W2) (by decide) (Nat.le_refl _)).mono ?_; rintro e V6 ⟨A6, c6, rfl, ho, hb⟩; have HO6 := Lib.hid ho; have HV6 := Lib.hid hb; clear ho hb))
              go_ret
              rw [HRES.out]
              exact NewRow.out HO6.out HBW2.out HV6.out
            · have HRES := Lib.hid (show nxZ f.code (k : Int) = [] by rw [HNX.out, if_neg (fun h => hx0.out h.2.1), if_neg (fun h => h5 h.2)]; rfl)
              have hE : E = false := by simpa using h4
              have hk2 : decide ((k : Int) + 1 < (n : Int)) = false := decide_eq_false (by omega)
              clear h4 h5 h2 HNX
              subst hE
              go_enter Tryd.func28, Tryd.ntmps28
              go_upto_region 1 with (fail)
              rw [← hw, ← hgp]
              clear hw hgp
              go_upto_region 4 with (fail)
              rw [← hw2, ← hgi]
              clear hgi hw2 p0 v0 v1 v2 v3 v4
              go_wp2_with (first | (go_at_call 33; refine (CE.out _).mono ?_; rintro e V5 ⟨rfl, rfl⟩))
              go_ret
              rw [HRES.out]
              exact NewRow.out (NewRow.nil W2 W2) HBW2.out HV0.out
      · have o6 : (op == 6) = false := by simpa using h1
        have o7 : (op == 7) = false := by simpa using h1b
        have HOP := Lib.hid (show ¬ (op = 6 ∨ op = 7) from fun h => h.elim h1 h1b)
        clear h1 h1b
        have HV0 := Lib.hid (Below.refl W2.heap.size W2)
        by_cases h4 : E = true
        · have HRES := Lib.hid (show nxZ f.code (k : Int) = [] by rw [HNX.out, if_neg (fun h => HOP.out ((to_place op).1 h.1)), if_neg (fun h => by rw [h4] at h; cases h.1)]; rfl)
          have hE : E = true := h4
          clear h4 HNX
          subst hE
          go_enter Tryd.func28, Tryd.ntmps28
          go_upto_region 1 with (fail)
          rw [← hw, ← hgp]
          clear hw hgp
          go_upto_region 4 with (fail)
          rw [← hw2, ← hgi]
          clear hgi hw2 p0 v0 v1 v2 v3 v4
          go_wp2_with (first | (go_at_call 33; refine (CE.out _).mono ?_; rintro e V5 ⟨rfl, rfl⟩))
          go_ret
          rw [HRES.out]
          exact NewRow.out (NewRow.nil W2 W2) HBW2.out HV0.out
        · by_cases h5 : k + 1 < n
          · have HRES := Lib.hid (show nxZ f.code (k : Int) = addN [] (k + 1) by rw [HNX.out, if_neg (fun h => HOP.out ((to_place op).1 h.1)), if_pos ⟨by simpa using h4, h5⟩]; rfl)
            have hE : E = false := by simpa using h4
            have hk2 : decide ((k : Int) + 1 < (n : Int)) = true := decide_eq_true (by omega)
            clear h4 h5 HNX
            subst hE
            go_enter Tryd.func28, Tryd.ntmps28
            go_upto_region 1 with (fail)
            rw [← hw, ← hgp]
            clear hw hgp
            go_upto_region 4 with (fail)
            rw [← hw2, ← hgi]
            clear hgi hw2 p0 v0 v1 v2 v3 v4
            go_wp2_with (first | (go_at_call 33; refine (CE.out _).mono ?_; rintro e V5 ⟨rfl, rfl⟩) | (go_at_call 44; refine (HADD.out _ _ _ _ _ (k + 1) (NewRow.nil W2 W2) (by decide) (Nat.le_refl _)).mono ?_; rintro e V6 ⟨A6, c6, rfl, ho, hb⟩; have HO6 := Lib.hid ho; have HV6 := Lib.hid hb; clear ho hb))
            go_ret
            rw [HRES.out]
            exact NewRow.out HO6.out HBW2.out HV6.out
          · have HRES := Lib.hid (show nxZ f.code (k : Int) = [] by rw [HNX.out, if_neg (fun h => HOP.out ((to_place op).1 h.1)), if_neg (fun h => h5 h.2)]; rfl)
            have hE : E = false := by simpa using h4
            have hk2 : decide ((k : Int) + 1 < (n : Int)) = false := decide_eq_false (by omega)
            clear h4 h5 HNX
            subst hE
            go_enter Tryd.func28, Tryd.ntmps28
            go_upto_region 1 with (fail)
            rw [← hw, ← hgp]
            clear hw hgp
            go_upto_region 4 with (fail)
            rw [← hw2, ← hgi]
            clear hgi hw2 p0 v0 v1 v2 v3 v4
            go_wp2_with (first | (go_at_call 33; refine (CE.out _).mono ?_; rintro e V5 ⟨rfl, rfl⟩))
            go_ret
            rw [HRES.out]
            exact NewRow.out (NewRow.nil W2 W2) HBW2.out HV0.out
  · have hz : nxZ f.code pc = [] := by
      unfold nxZ
      split
      · unfold nxN
        rw [dif_neg (by have := HN.out; omega)]
      · rfl
    rw [hz]
    have HZ := Lib.hid (Own.nil W w.heap.size 3 1)
    by_cases h0 : pc < 0
    · clear hf hz hin
      go_enter Tryd.func28, Tryd.ntmps28
      go_wp2_with fail
      go_ret
      rw [← hw]
      exact ⟨none, 0, rfl, HZ.out, HBW.out⟩
    · have h1 : (n : Int) ≤ pc := by omega
      clear hf hz hin
      go_enter Tryd.func28, Tryd.ntmps28
      go_wp2_with fail
      go_ret
      rw [← hw]
      exact ⟨none, 0, rfl, HZ.out, HBW.out⟩
set_option maxHeartbeats 2000000 in
/-- Open: is a place? -/
theorem ropen_any {w : World} {C S : Option Addr} {n c m d : Nat} {f : Fn} (hf : FnOk w w.heap.size ⟨C, n, c, S, m, d⟩ f) (pc : Int) :
    Calls Tryd.prog 26 #[.agg #[.slice C n c, .slice S m d], .int .i64 pc] w fun e w' => e = .returned (.bool (decide (0 ≤ pc) && (decide (pc.toNat < n) && openB f.safe pc.toNat))) ∧ Below w.heap.size w w' := by
  have HB := Lib.hid ((Below.refl w.heap.size w).alloc (Nat.le_refl _) (.cells #[.slice C n c, .slice S m d] 39))
  have hm : m = f.safe.length := hf.2.1
  by_cases h0 : 0 < pc
  · obtain ⟨k, rfl⟩ : ∃ k : Nat, pc = k := ⟨pc.toNat, by omega⟩
    have h0n : 0 < k := by omega
    by_cases hn : k < n
    · have h1 : decide (0 < k) = true := decide_eq_true h0n
      have h2 : decide (k < n) = true := decide_eq_true hn
      by_cases hk : k < m
      · obtain ⟨b, off, rfl, hb, hc⟩ := safe_cell (((hf.below HB.out).more HB.out.size).2.2.2.1) k (by omega)
        have HO := Lib.hid (show (decide (0 ≤ (k : Int)) && (decide ((k : Int).toNat < n) && openB f.safe (k : Int).toNat)) = !(f.safe.getD k false) by
          rw [Int.toNat_natCast, decide_eq_true (show 0 ≤ (k : Int) by omega), decide_eq_true hn]
          unfold openB
          rw [decide_eq_true h0n]
          rfl)
        obtain ⟨v, HV⟩ : ∃ v, Hid (v = f.safe.getD k false) := ⟨_, Lib.hid rfl⟩
        rw [← HV.out] at hc HO
        rw [HO.out]
        have h3 : decide (k < m) = true := decide_eq_true hk
        clear hf hm h0 h0n hn HO
        go_enter Tryd.func26, Tryd.ntmps26
        go_wp2_with fail
        go_ret
        exact ⟨rfl, HB.out⟩
      · have HO : (decide (0 ≤ (k : Int)) && (decide ((k : Int).toNat < n) && openB f.safe (k : Int).toNat)) = true := by
          rw [Int.toNat_natCast, decide_eq_true (show 0 ≤ (k : Int) by omega), decide_eq_true hn]
          unfold openB
          rw [decide_eq_true h0n, getB_big (by omega)]
          rfl
        rw [HO]
        have h3 : decide (k < m) = false := decide_eq_false hk
        clear hf hm h0 h0n hn hk HO
        go_enter Tryd.func26, Tryd.ntmps26
        go_wp2_with fail
        go_ret
        exact ⟨rfl, HB.out⟩
    · have HO : (decide (0 ≤ (k : Int)) && (decide ((k : Int).toNat < n) && openB f.safe (k : Int).toNat)) = false := by
        rw [Int.toNat_natCast, decide_eq_false hn, Bool.false_and, Bool.and_false]
      rw [HO]
      have h1 : decide (0 < k) = true := decide_eq_true h0n
      have h2 : decide (k < n) = false := decide_eq_false hn
      clear hf hm h0 h0n hn HO
      go_enter Tryd.func26, Tryd.ntmps26
      go_wp2_with fail
      go_ret
      exact ⟨rfl, HB.out⟩
  · have HO : (decide (0 ≤ pc) && (decide (pc.toNat < n) && openB f.safe pc.toNat)) = false := by
      by_cases e : pc = 0
      · subst e
        show (true && (decide ((0 : Int).toNat < n) && false)) = false
        simp
      · rw [decide_eq_false (by omega)]; rfl
    rw [HO]
    have h1 : decide (0 < pc) = false := decide_eq_false h0
    clear hf hm h0 HO
    go_enter Tryd.func26, Tryd.ntmps26
    go_wp2_with fail
    go_ret
    exact ⟨rfl, HB.out⟩
end Go.Proofs.YtfgaonkoaolffaaDoor

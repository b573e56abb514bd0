/-
  Chapter 8: the reference's Gap: round by round. Conditions: the function lies in memory.
-/
import Derived.Test.YtdpacdmaadodiaaDoorRnx8
import Derived.Test.YtdpacdmaadodiaaDoorGap8
namespace Go.Proofs.YtdpacdmaadodiaaDoor
open Go.RowKit
def lgl (n : Nat) (nx : Nat → List Nat) (op : Nat → Bool) (r : Nat) : List Nat := (List.range n).map (lg nx op r)
theorem lgl_len (n : Nat) (nx : Nat → List Nat) (op : Nat → Bool) (r : Nat) : (lgl n nx op r).length = n := by simp [lgl]
theorem lgl_at {n : Nat} {nx : Nat → List Nat} {op : Nat → Bool} {r x : Nat} (h : x < n) : (lgl n nx op r).getD x 0 = lg nx op r x := by simp [lgl, h]
theorem lgl_zero (n : Nat) (nx : Nat → List Nat) (op : Nat → Bool) : lgl n nx op 0 = List.replicate n 0 := by
  have : lg nx op 0 = fun _ => 0 := by funext x; rfl
  simp [lgl, this, List.map_const']
theorem lg_le (nx : Nat → List Nat) (op : Nat → Bool) (r x : Nat) : lg nx op r x ≤ r := by
  induction r generalizing x with
  | zero => exact Nat.le_refl _
  | succ r ih =>
    unfold lg
    split
    · rw [foldmax_le]
      exact ⟨by omega, fun k _ => by have := ih k; omega⟩
    · omega
/-- In a round: k places are told. -/
structure Rg (n : Nat) (nx : Nat → List Nat) (op : Nat → Bool) (r k : Nat) (ms : List Nat) : Prop where
  len : ms.length = n
  at_ : ∀ x, x < n → ms.getD x 0 = if x < k then lg nx op (r + 1) x else 0
/-- .. of the k-th one, j of those that come next. -/
structure Rh (n : Nat) (nx : Nat → List Nat) (op : Nat → Bool) (r k j : Nat) (ms : List Nat) : Prop where
  len : ms.length = n
  at_ : ∀ x, x < n → x ≠ k → ms.getD x 0 = if x < k then lg nx op (r + 1) x else 0
  run : ms.getD k 0 = ((nx k).take j).foldl (fun a y => max a (1 + lg nx op r y)) 1
section
variable {n : Nat} {nx : Nat → List Nat} {op : Nat → Bool} {r k j y : Nat} {ms : List Nat}
theorem Rg.start : Rg n nx op r 0 (List.replicate n 0) := ⟨by simp, fun x hx => by simp [hx]⟩
theorem Rg.shut (h : Rg n nx op r k ms) (ho : op k = false) : Rg n nx op r (k + 1) ms := by
  refine ⟨h.len, fun x hx => ?_⟩
  rw [h.at_ x hx]
  by_cases e : x = k
  · subst e
    rw [if_neg (Nat.lt_irrefl _), if_pos (Nat.lt_succ_self _), lg_closed ho]
  · by_cases h1 : x < k
    · rw [if_pos h1, if_pos (by omega)]
    · rw [if_neg h1, if_neg (by omega)]
theorem Rg.begin (h : Rg n nx op r k ms) (hk : k < n) : Rh n nx op r k 0 (ms.set k 1) := by
  have hkm : k < ms.length := by rw [h.len]; exact hk
  refine ⟨by rw [List.length_set, h.len], fun x hx hne => ?_, ?_⟩
  · rw [getD_set _ _ _ _ hkm, if_neg (Ne.symm hne)]
    exact h.at_ x hx
  · rw [getD_set _ _ _ _ hkm, if_pos rfl]
    rfl
theorem Rh.next (h : Rh n nx op r k j ms) (hk : k < n) (hj : (nx k)[j]? = some y) : Rh n nx op r k (j + 1) (ms.set k (max (ms.getD k 0) (1 + lg nx op r y))) := by
  have hkm : k < ms.length := by rw [h.len]; exact hk
  have htk : (nx k).take (j + 1) = (nx k).take j ++ [y] := by rw [List.take_add_one, hj]; rfl
  refine ⟨by rw [List.length_set, h.len], fun x hx hne => ?_, ?_⟩
  · rw [getD_set _ _ _ _ hkm, if_neg (Ne.symm hne)]
    exact h.at_ x hx hne
  · rw [getD_set _ _ _ _ hkm, if_pos rfl, htk, List.foldl_append, ← h.run]
    rfl
theorem Rh.bound (h : Rh n nx op r k j ms) : ms.getD k 0 ≤ r + 1 := by
  rw [h.run, foldmax_le (f := fun y => 1 + lg nx op r y)]
  exact ⟨by omega, fun y _ => by have := lg_le nx op r y; omega⟩
theorem Rh.finish (h : Rh n nx op r k j ms) (hj : (nx k).length ≤ j) (ho : op k = true) : Rg n nx op r (k + 1) ms := by
  have hr := h.run
  rw [List.take_of_length_le hj] at hr
  refine ⟨h.len, fun x hx => ?_⟩
  by_cases e : x = k
  · subst e
    rw [if_pos (Nat.lt_succ_self _), hr]
    conv => rhs; unfold lg
    rw [if_pos ho]
  · rw [h.at_ x hx e]
    by_cases h1 : x < k
    · rw [if_pos h1, if_pos (by omega)]
    · rw [if_neg h1, if_neg (by omega)]
theorem Rg.done (h : Rg n nx op r n ms) : ms = lgl n nx op (r + 1) := by
  refine List.ext_getElem (by rw [h.len, lgl_len]) fun i h1 h2 => ?_
  have hi : i < n := by rw [← h.len]; exact h1
  have h3 := h.at_ i hi
  rw [if_pos hi] at h3
  have e1 : ms.getD i 0 = ms[i] := by simp [h1]
  rw [← e1, h3, ← lgl_at hi]
  simp [h2]
end
theorem blk1 (w : World) (t : TypeId) (c : Array Value) (W : World) (hW : W = w.alloc (.cells c t)) : Blk W w.heap.size t c ∧ Below w.heap.size w W := by
  rw [hW]; exact ⟨Blk.new w t c, (Below.refl _ w).alloc (Nat.le_refl _) _⟩
theorem below_set8 {B g k : Nat} {w wr : World} (h : Below B w wr) (hg : B ≤ g) (v : Value) : Below B w (wr.setCell ⟨g, k, none⟩ v) :=
  ⟨h.os, h.tape, h.output, by simpa [World.setCell] using h.size, fun q hq => (Below.heap_setCell wr _ v q (by simp; omega)).trans (h.block q hq)⟩
theorem openI (n : Nat) (op : Nat → Bool) (k : Nat) (h : k < n) : (decide (0 ≤ (k : Int)) && (decide ((k : Int).toNat < n) && op (k : Int).toNat)) = op k := by
  rw [Int.toNat_natCast, decide_eq_true (show 0 ≤ (k : Int) by omega), decide_eq_true h]
  rfl
set_option maxRecDepth 10000 in
set_option maxHeartbeats 4000000 in
theorem rgap_any {w : World} {C S : Option Addr} {n c m d : Nat} {f : Fn} (hf : FnOk w w.heap.size ⟨C, n, c, S, m, d⟩ f) (hn : n ≤ 70) :
    Calls Tryd.prog 10 #[.agg #[.slice C n c, .slice S m d]] w fun e w' => e = .returned (twoOf (gapG n (nxN f.code) (openB f.safe))) ∧ Below w.heap.size w w' := by
  obtain ⟨W, HW⟩ : ∃ W, Hid (W = w.alloc (.cells #[.slice C n c, .slice S m d] 30)) := ⟨_, Lib.hid rfl⟩
  obtain ⟨fb, HFB⟩ : ∃ q, Hid (q = w.heap.size) := ⟨_, Lib.hid rfl⟩
  have hbw : Below w.heap.size w W := by rw [HW.out]; exact (Below.refl _ w).alloc (Nat.le_refl _) _
  have HB := Lib.hid hbw
  have HP := Lib.hid (show Blk W fb 30 #[.slice C n c, .slice S m d] by rw [HW.out, HFB.out]; exact Blk.new w _ _)
  have HF := Lib.hid (hf.step hbw)
  have HNC := Lib.hid (show n = f.code.length from hf.1)
  have p0 : W.cell? ⟨fb, 0, none⟩ = some (.slice C n c) := (HP.out.cell 0).trans rfl
  have P0 := Lib.hid (fun (V : World) (h : Below W.heap.size W V) => (show V.cell? ⟨fb, 0, none⟩ = some (.slice C n c) from ((HP.out.below h HP.out.lt).cell 0).trans rfl))
  have P1 := Lib.hid (fun (V : World) (h : Below W.heap.size W V) => (show V.cell? ⟨fb, 1, none⟩ = some (.slice S m d) from ((HP.out.below h HP.out.lt).cell 1).trans rfl))
  have HOP := Lib.hid (fun (V : World) (h : Below W.heap.size W V) (k : Nat) (hk : k < n) => (show Calls Tryd.prog 15 #[.agg #[.slice C n c, .slice S m d], .int .i64 k] V fun e w' => e = .returned (.bool (openB f.safe k)) ∧ Below V.heap.size V w' by have h1 := ropen_any (HF.out.step h) (k : Int); rw [openI n (openB f.safe) k hk] at h1; exact h1))
  have HNX := Lib.hid (fun (V : World) (h : Below W.heap.size W V) (k : Nat) => (show Calls Tryd.prog 19 #[.agg #[.slice C n c, .slice S m d], .int .i64 k] V (RowOut V (nxN f.code k)) by have h1 := rnext_any (HF.out.step h) hn (k : Int); rw [nxZ_nat] at h1; exact h1))
  have hm : ∀ w, (Instr.makeSlice 35 (.int .i64 (n : Int)) (.int .i64 (n : Int))).run Tryd.prog w = .ok (.slice (some ⟨w.heap.size, 0, none⟩) n n) (w.alloc (.cells (madeCells #[.int .i64 0] n) 3)) :=
    run_make_row' _ _ _ _ Tryd.underlying35 Tryd.infoIg rfl _ _ n (by omega) (by omega)
  have hw := HW.out
  have hfb := HFB.out
  clear hf hbw
  go_enter Tryd.func10, Tryd.ntmps10
  go_upto_region 1 with (fail)
  rw [← hw, ← hfb]
  clear hw hfb
  go_upto_region 3 with (fail)
  generalize hV : W.alloc _ = V
  obtain ⟨b1, hB1⟩ := blk1 W _ _ V hV.symm
  rw [made_int, ← lgl_zero n (nxN f.code) (openB f.safe)] at b1
  obtain ⟨gl0, HG0⟩ : ∃ g, Hid (g = W.heap.size) := ⟨_, Lib.hid rfl⟩
  rw [← HG0.out] at b1
  rw [← HG0.out]
  have HLB := Lib.hid b1
  have HVB := Lib.hid hB1
  have HL0 := Lib.hid (show W.heap.size ≤ gl0 by rw [HG0.out]; exact Nat.le_refl _)
  clear hV b1 hB1 p0 HG0
  go_loopw [4, 5] (fun v4 v5 wr => ∃ (r gl : Nat), r ≤ n + 1 ∧ v5 = .int .i64 r ∧ v4 = .slice (some ⟨gl, 0, none⟩) n n ∧ Hid (Blk wr gl 3 (nis (lgl n (nxN f.code) (openB f.safe) r))) ∧ Hid (W.heap.size ≤ gl) ∧ Hid (Below W.heap.size W wr)) (fun _ v5 _ => n + 1 - (intOf v5).toNat)
  case atStart => exact ⟨0, gl0, by omega, rfl, rfl, HLB, HL0, HVB⟩
  case round =>
    obtain ⟨r, gl, hr, rfl, rfl, K1, K2, K3⟩ := hrel
    have p0 := P0.out wr K3.out
    by_cases hlt : r ≤ n
    · go_upto_region 7 with (fail)
      generalize hV2 : wr.alloc _ = V2
      obtain ⟨b2, hB2⟩ := blk1 wr _ _ V2 hV2.symm
      rw [made_int] at b2
      obtain ⟨gn, HGN⟩ : ∃ g, Hid (g = wr.heap.size) := ⟨_, Lib.hid rfl⟩
      rw [← HGN.out] at b2
      rw [← HGN.out]
      have HNB := Lib.hid b2
      have HLB2 := Lib.hid (K1.out.below hB2 K1.out.lt)
      have HV2 := Lib.hid (K3.out.trans (hB2.mono K3.out.size))
      have HN2 := Lib.hid (show W.heap.size ≤ gn ∧ gl ≠ gn by rw [HGN.out]; have h1 := K1.out.lt; have h2 := K3.out.size; omega)
      clear hV2 b2 hB2 p0 HGN
      obtain ⟨wo, hwo⟩ : ∃ wo : World, wo = wr := ⟨_, rfl⟩
      clear K1 K3
      subst hwo
      go_loopw [7] (fun v7 wr => ∃ (k : Nat) (ms : List Nat), k ≤ n ∧ v7 = .int .i64 k ∧ Hid (Blk wr gl 3 (nis (lgl n (nxN f.code) (openB f.safe) r))) ∧ Hid (Blk wr gn 3 (nis ms)) ∧ Hid (Rg n (nxN f.code) (openB f.safe) r k ms) ∧ Hid (Below W.heap.size W wr)) (fun v7 _ => n - (intOf v7).toNat)
      case atStart => exact ⟨0, _, by omega, rfl, HLB2, HNB, Lib.hid Rg.start, HV2⟩
      case round =>
        obtain ⟨k, ms, hk, rfl, K1, K4, K5, K3⟩ := hrel
        have p0 := P0.out wr K3.out
        have p1 := P1.out wr K3.out
        by_cases hkn : k < n
        · have HO := Lib.hid (HOP.out wr K3.out k hkn)
          obtain ⟨o, HOE⟩ : ∃ o, Hid (o = openB f.safe k) := ⟨_, Lib.hid rfl⟩
          rw [← HOE.out] at HO
          cases o with
          | false =>
            go_wp2_with (go_at_call 15; refine HO.out.mono ?_; rintro e V1 ⟨rfl, hb1⟩; have HB1 := Lib.hid hb1; clear hb1)
            exact ⟨⟨k + 1, ms, by omega, by go_num, Lib.hid (K1.out.below HB1.out K1.out.lt), Lib.hid (K4.out.below HB1.out K4.out.lt), Lib.hid (K5.out.shut HOE.out.symm), Lib.hid (K3.out.trans (HB1.out.mono K3.out.size))⟩, by simp [intOf]; omega⟩
          | true =>
            have hkm : k < ms.length := by rw [K5.out.len]; exact hkn
            go_upto_region 11 with (go_at_call 15; refine HO.out.mono ?_; rintro e V1 ⟨rfl, hb1⟩; have HB1 := Lib.hid hb1; have s0 : V1.frozen? ⟨gn, k, none⟩ = false := (K4.out.below hb1 K4.out.lt).frozen k; have s1 : V1.cell? ⟨gn, k, none⟩ = some (.int .i64 (ms.getD k 0 : Nat)) := (by rw [(K4.out.below hb1 K4.out.lt).cell, nis_at _ _ hkm]); clear hb1)
            have HB3 := Lib.hid (below_set8 (k := k) (K3.out.trans (HB1.out.mono K3.out.size)) HN2.out.1 (.int .i64 1))
            have HL3 := Lib.hid ((K1.out.below HB1.out K1.out.lt).far (p := ⟨gn, k, none⟩) (by have h := HN2.out.2; simpa using h) (.int .i64 1))
            have HM3 := Lib.hid (show Blk (V1.setCell ⟨gn, k, none⟩ (.int .i64 1)) gn 3 (nis (ms.set k 1)) from nis_set ms k 1 ▸ (K4.out.below HB1.out K4.out.lt).set_ k _)
            have HR3 := Lib.hid (K5.out.begin hkn)
            generalize hV3 : V1.setCell ⟨gn, k, none⟩ (.int .i64 1) = V3 at HB3 HL3 HM3 ⊢
            have p03 := P0.out V3 HB3.out
            have p13 := P1.out V3 HB3.out
            have HNXk := Lib.hid (HNX.out V3 HB3.out k)
            obtain ⟨nl, HNL⟩ : ∃ l, Hid (l = nxN f.code k) := ⟨_, Lib.hid rfl⟩
            rw [← HNL.out] at HNXk
            clear hV3 p0 p1 s0 s1 hkm HO
            go_upto_region 13 with (go_at_call 19; refine HNXk.out.mono ?_; rintro e V4 ⟨A, cl, rfl, ho4, hb4⟩; have HO4 := Lib.hid ho4; have HB4 := Lib.hid hb4; clear ho4 hb4)
            obtain ⟨len, HLN⟩ : ∃ l, Hid (l = nl.length) := ⟨_, Lib.hid rfl⟩
            rw [← HLN.out] at HO4 ⊢
            have HL4 := Lib.hid (HL3.out.below HB4.out HL3.out.lt)
            have HM4 := Lib.hid (HM3.out.below HB4.out HM3.out.lt)
            have HW4 := Lib.hid (HB3.out.trans (HB4.out.mono HB3.out.size))
            have HGN3 := Lib.hid HM3.out.lt
            obtain ⟨wp, hwp⟩ : ∃ wp : World, wp = wr := ⟨_, rfl⟩
            clear K1 K3 K4
            subst hwp
            go_loopw [9] (fun v9 wr => ∃ (j : Nat) (ms : List Nat), j ≤ len ∧ v9 = .int .i64 j ∧ Hid (Blk wr gl 3 (nis (lgl n (nxN f.code) (openB f.safe) r))) ∧ Hid (Blk wr gn 3 (nis ms)) ∧ Hid (Rh n (nxN f.code) (openB f.safe) r k j ms) ∧ Hid (Own wr V3.heap.size 3 1 A len cl (ints (upI nl))) ∧ Hid (Below W.heap.size W wr)) (fun v9 _ => len - (intOf v9).toNat)
            case atStart => exact ⟨0, _, by omega, rfl, HL4, HM4, HR3, HO4, HW4⟩
            case round =>
              obtain ⟨j, ms, hj, rfl, K1, K4, K6, K7, K3⟩ := hrel
              by_cases hjl : j < len
              · have HJW := Lib.hid (show wrap64 ((j : Int) + 1) = ((j + 1 : Nat) : Int) by have h1 := own_few K7.out; unfold maxLen at h1; unfold wrap64; omega)
                have hj2 : j < nl.length := by rw [← HLN.out]; exact hjl
                obtain ⟨y, HY⟩ : ∃ y, Hid (y = nl[j]) := ⟨_, Lib.hid rfl⟩
                have HYM := Lib.hid (show (nxN f.code k)[j]? = some y by rw [← HNL.out, HY.out]; exact List.getElem?_eq_getElem hj2)
                have hyn : y < n := by rw [HNC.out]; exact nx_lt (List.mem_of_getElem? HYM.out)
                obtain ⟨b, off, e0, hb, hc⟩ := K7.out.row.at_ (k := j) (by simpa [ints, upI] using hj2)
                subst e0
                have hcj := hc j (.int .i64 (y : Int)) (by simp [ints, upI, hj2, HY.out])
                have hkm : k < ms.length := by rw [K6.out.len]; exact hkn
                have L0 : ∀ w', SB8 wr w' → w'.cell? ⟨b, off + j, none⟩ = some (.int .i64 (y : Int)) := fun w' h => (h.cell hb).trans hcj
                have L1 : ∀ w', SB8 wr w' → w'.cell? ⟨gn, k, none⟩ = some (.int .i64 (ms.getD k 0 : Nat)) := fun w' h => by rw [(K4.out.below h K4.out.lt).cell, nis_at _ _ hkm]
                have L2 : ∀ w', SB8 wr w' → w'.cell? ⟨gl, y, none⟩ = some (.int .i64 (lg (nxN f.code) (openB f.safe) r y : Nat)) := fun w' h => by rw [(K1.out.below h K1.out.lt).cell, nis_at _ _ (by rw [lgl_len]; exact hyn), lgl_at hyn]
                have hle := K6.out.bound
                have hle2 := lg_le (nxN f.code) (openB f.safe) r y
                have f3 := K4.out.drew.frozen k
                have c3 : wr.drew.cell? ⟨gn, k, none⟩ = some (.int .i64 (ms.getD k 0 : Nat)) := by rw [K4.out.drew.cell, nis_at _ _ hkm]
                have HD := Lib.hid (show SB8 wr wr.drew from (Below.refl _ wr).drew)
                have HN6 := Lib.hid (K6.out.next hkn HYM.out)
                have HM5 := Lib.hid (show Blk (wr.drew.setCell ⟨gn, k, none⟩ (.int .i64 ((max (ms.getD k 0) (1 + lg (nxN f.code) (openB f.safe) r y) : Nat) : Int))) gn 3 (nis (ms.set k (max (ms.getD k 0) (1 + lg (nxN f.code) (openB f.safe) r y)))) from nis_set ms k _ ▸ K4.out.drew.set_ k _)
                obtain ⟨a1, HA1⟩ : ∃ a, Hid (a = ms.getD k 0) := ⟨_, Lib.hid rfl⟩
                obtain ⟨a2, HA2⟩ : ∃ a, Hid (a = lg (nxN f.code) (openB f.safe) r y) := ⟨_, Lib.hid rfl⟩
                rw [← HA1.out] at L1 c3 hle
                rw [← HA2.out] at L2 hle2
                rw [← HA1.out, ← HA2.out] at HN6 HM5
                have HL5 := Lib.hid (K1.out.drew.far (p := ⟨gn, k, none⟩) (by have h := HN2.out.2; simpa using h) (.int .i64 ((max a1 (1 + a2) : Nat) : Int)))
                have HO5 := Lib.hid ((own_low K7.out HD.out).setCell ⟨gn, k, none⟩ (.int .i64 ((max a1 (1 + a2) : Nat) : Int)) ((own_low K7.out HD.out).ne_lt HGN3.out))
                have HW5 := Lib.hid (below_set8 (k := k) (K3.out.drew) HN2.out.1 (.int .i64 ((max a1 (1 + a2) : Nat) : Int)))
                clear hb hc hcj HY hj2 hkm
                go_wp2_with fail
                refine region_schE (SB8 wr) [] [0, 1, 2, 3, 4, 5, 6, 7, 8, 9, 10, 11, 12, 13, 14, 15] 16 (by kernel_rfl) (by kernel_rfl) (by kernel_rfl) (fun _ _ d _ _ h => by cases d <;> exact h) HD.out ?_
                (try simp only [Act.put, List.setIfInBounds_toArray, List.set_cons_zero, List.set_cons_succ]); refine schE_last ?_; simp only [pickOps, List.getElem?_toArray, List.getElem?_cons_zero, List.getElem?_cons_succ]; (repeat (first | go_big_quiet_skip | (go_big_quiet_want; first | (go_big_quiet_op; first | go_big_quiet_on | ((first | with_reducible refine ⟨_, fun _ _ => rfl, ?_⟩); go_big_quiet_on)) | (simp (contextual := true) [go_sem, L0, L1, L2]; with_reducible refine ⟨_, fun _ _ => rfl, ?_⟩; go_big_quiet_on)))); refine wpQuiet_nil ?_
                clear L0 L1 L2
                go_wp2_with fail
                have e : (max (a1 : Int) (1 + (a2 : Int))) = ((max a1 (1 + a2) : Nat) : Int) := by omega
                rw [e, HJW.out, drew_set]
                exact ⟨⟨j + 1, _, by omega, rfl, HL5, HM5, HN6, HO5, HW5⟩, by simp only [intOf, Int.toNat_natCast]; omega⟩
              · obtain rfl : j = len := by omega
                have HFIN := Lib.hid (K6.out.finish (by rw [← HNL.out, HLN.out]; exact Nat.le_refl _) HOE.out.symm)
                go_wp2_with fail
                exact ⟨⟨k + 1, ms, by omega, by go_num, K1, K4, HFIN, K3⟩, by simp [intOf]; omega⟩
        · obtain rfl : k = n := by omega
          have HE := Lib.hid K5.out.done
          rw [HE.out] at K4
          go_wp2_with fail
          exact ⟨⟨r + 1, gn, by omega, by go_num, rfl, K4, Lib.hid HN2.out.1, K3⟩, by simp [intOf]; omega⟩
    · obtain rfl : r = n + 1 := by omega
      go_upto_region 19 with (fail)
      go_loop [10, 11] (fun v10 v11 => ∃ k : Nat, k ≤ n ∧ v11 = .int .i64 k ∧ v10 = .int .i64 (mostF (lg (nxN f.code) (openB f.safe) (n + 1)) k : Nat)) (fun _ v11 => n - (intOf v11).toNat)
      case atStart => exact ⟨0, by omega, rfl, rfl⟩
      case round =>
        obtain ⟨k, hk, rfl, rfl⟩ := hrel
        obtain ⟨q, HQ⟩ : ∃ q, Hid (q = mostF (lg (nxN f.code) (openB f.safe) (n + 1)) k) := ⟨_, Lib.hid rfl⟩
        rw [← HQ.out]
        by_cases hkn : k < n
        · have c0 : wr.cell? ⟨gl, k, none⟩ = some (.int .i64 (lg (nxN f.code) (openB f.safe) (n + 1) k : Nat)) := by rw [K1.out.cell, nis_at _ _ (by rw [lgl_len]; exact hkn), lgl_at hkn]
          obtain ⟨a, HA⟩ : ∃ a, Hid (a = lg (nxN f.code) (openB f.safe) (n + 1) k) := ⟨_, Lib.hid rfl⟩
          rw [← HA.out] at c0
          have HS := Lib.hid (show mostF (lg (nxN f.code) (openB f.safe) (n + 1)) (k + 1) = max q a by rw [most_succ, HQ.out, HA.out])
          go_wp2_with fail
          exact ⟨⟨k + 1, by omega, by go_num, by rw [HS.out, show (max (q : Int) (a : Int)) = ((max q a : Nat) : Int) by omega]⟩, by simp [intOf]; omega⟩
        · obtain rfl : k = n := by omega
          have HE := Lib.hid (show gapG k (nxN f.code) (openB f.safe) = if k < q then (0, false) else (q, true) by unfold gapG; rw [← HQ.out])
          by_cases hq : k < q
          · have hq' : decide (k < q) = true := decide_eq_true hq
            have HE2 := Lib.hid (HE.out.trans (if_pos hq))
            clear hq
            go_wp2_with fail
            go_ret2
            rw [HE2.out]
            exact ⟨rfl, HB.out.trans (K3.out.mono HB.out.size)⟩
          · have hq' : decide (k < q) = false := decide_eq_false hq
            have HE2 := Lib.hid (HE.out.trans (if_neg hq))
            clear hq
            go_wp2_with fail
            go_ret2
            rw [HE2.out]
            exact ⟨rfl, HB.out.trans (K3.out.mono HB.out.size)⟩
end Go.Proofs.YtdpacdmaadodiaaDoor

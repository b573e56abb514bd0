/-
  Chapter 8: the reference's Reach and Used: round by round. Conditions: the program lies in memory.
-/
import Derived.Test.YtdpacdmaadodiaaDoorUsd8
import Derived.Test.YtdpacdmaadodiaaDoorRgp8
namespace Go.Proofs.YtdpacdmaadodiaaDoor
open Go.RowKit
/-- A row of truths of the call's own. -/
theorem rfirst {n : Nat} {nx : Nat → List Nat} : Rr n nx 0 ((List.replicate n false).set 0 true) := by
  refine Rr.first (by simp) (fun h => ?_) (fun x hx => ?_)
  · rw [getB_set _ _ _ _ (by simpa using h), if_pos rfl]
  · by_cases h : 0 < n
    · rw [getB_set _ _ _ _ (by simpa using h)] at hx
      split at hx
      · rename_i e; exact e.symm
      · rw [fresh_all] at hx; cases hx
    · obtain rfl : n = 0 := by omega
      simp at hx
theorem set_zero {n : Nat} {v : List Bool} (hl : v.length = n) (h : 0 < n → v.getD 0 false = true) : v.set 0 true = v := by
  cases v with
  | nil => rfl
  | cons a v =>
    have := h (by rw [← hl]; simp)
    have : a = true := by simpa using this
    rw [this]
    rfl
theorem set_same (u : List Bool) (j : Nat) : u.set j (u.getD j false) = u := by
  refine List.ext_getElem (by simp) fun i h1 h2 => ?_
  rw [List.getElem_set]
  split
  · rename_i e
    subst e
    have h3 : j < u.length := by simpa using h1
    simp [h3]
  · rfl
/-- What of the j-th one's is marked: i of them. -/
def Mk8 (nx : Nat → List Nat) (j i : Nat) (u : List Bool) : Prop := ∀ y ∈ (nx j).take i, u.getD y false = true
theorem Mk8.start (nx : Nat → List Nat) (j : Nat) (u : List Bool) : Mk8 nx j 0 u := fun y hy => by simp at hy
theorem Mk8.next {nx : Nat → List Nat} {j i y : Nat} {u u' : List Bool} (h : Mk8 nx j i u) (hi : (nx j)[i]? = some y) (hy : u'.getD y false = true) (hup : ∀ x, u.getD x false = true → u'.getD x false = true) : Mk8 nx j (i + 1) u' := fun z hz => by
  have htk : (nx j).take (i + 1) = (nx j).take i ++ [y] := by rw [List.take_add_one, hi]; rfl
  rw [htk] at hz
  rcases List.mem_append.1 hz with h1 | h1
  · exact hup z (h z h1)
  · rw [List.mem_singleton] at h1
    rw [h1]
    exact hy
theorem Mk8.all {nx : Nat → List Nat} {j i : Nat} {u : List Bool} (h : Mk8 nx j i u) (hi : (nx j).length ≤ i) : ∀ y ∈ nx j, u.getD y false = true := fun y hy => h y (by rw [List.take_of_length_le hi]; exact hy)
theorem zero_up {n : Nat} {nx : Nat → List Nat} {v u : List Bool} {j r : Nat} (h : Rj n nx v j u) (hv : Rr n nx r v) : u.set 0 true = u := set_zero h.len (fun h0 => h.up 0 (hv.zero h0))
set_option maxRecDepth 10000 in
set_option maxHeartbeats 8000000 in
theorem rreach_any {w : World} {C S : Option Addr} {n c m d : Nat} {f : Fn} (hf : FnOk w w.heap.size ⟨C, n, c, S, m, d⟩ f) (hn : n ≤ 70) :
    Calls Tryd.prog 21 #[.agg #[.slice C n c, .slice S m d]] w (RchOut w n (nxN f.code)) := by
  obtain ⟨W, HW⟩ : ∃ W, Hid (W = w.alloc (.cells #[.slice C n c, .slice S m d] 30)) := ⟨_, Lib.hid rfl⟩
  obtain ⟨fb, HFB⟩ : ∃ q, Hid (q = w.heap.size) := ⟨_, Lib.hid rfl⟩
  have hbw : Below w.heap.size w W := by rw [HW.out]; exact (Below.refl _ w).alloc (Nat.le_refl _) _
  have HB := Lib.hid hbw
  have HP := Lib.hid (show Blk W fb 30 #[.slice C n c, .slice S m d] by rw [HW.out, HFB.out]; exact Blk.new w _ _)
  have HF := Lib.hid (hf.step hbw)
  have HNX := Lib.hid (fun (V : World) (h : Below W.heap.size W V) (k : Nat) => (show Calls Tryd.prog 19 #[.agg #[.slice C n c, .slice S m d], .int .i64 k] V (RowOut V (nxN f.code k)) by have h1 := rnext_any (HF.out.step h) hn (k : Int); rw [nxZ_nat] at h1; exact h1))
  have HNC := Lib.hid (show n = f.code.length from hf.1)
  have HXX := Lib.hid (fun x y (hy : y ∈ nxN f.code x) => (show y < n by rw [HNC.out]; exact nx_lt hy))
  have P0 := Lib.hid (fun (V : World) (h : Below W.heap.size W V) => (show V.cell? ⟨fb, 0, none⟩ = some (.slice C n c) from ((HP.out.below h HP.out.lt).cell 0).trans rfl))
  have P1 := Lib.hid (fun (V : World) (h : Below W.heap.size W V) => (show V.cell? ⟨fb, 1, none⟩ = some (.slice S m d) from ((HP.out.below h HP.out.lt).cell 1).trans rfl))
  have p0 : W.cell? ⟨fb, 0, none⟩ = some (.slice C n c) := P0.out W (.refl _ _)
  have hm : ∀ w, (Instr.makeSlice 28 (.int .i64 (n : Int)) (.int .i64 (n : Int))).run Tryd.prog w = .ok (.slice (some ⟨w.heap.size, 0, none⟩) n n) (w.alloc (.cells (madeCells #[.bool false] n) 4)) :=
    run_make_row' _ _ _ _ Tryd.underlying28 Tryd.infoB9 rfl _ _ n (by omega) (by omega)
  have hw := HW.out
  have hfb := HFB.out
  clear hf hbw
  go_enter Tryd.func21, Tryd.ntmps21
  go_upto_region 1 with (fail)
  rw [← hw, ← hfb]
  clear hw hfb
  go_upto_region 2 with (fail)
  generalize hV : W.alloc _ = V
  obtain ⟨b1, hB1⟩ := blk1 W _ _ V hV.symm
  rw [made_bool9] at b1
  obtain ⟨rk, HRK⟩ : ∃ g, Hid (g = W.heap.size) := ⟨_, Lib.hid rfl⟩
  rw [← HRK.out] at b1
  rw [← HRK.out]
  have HRB := Lib.hid b1
  have HVB := Lib.hid hB1
  have HR0 := Lib.hid (show W.heap.size ≤ rk by rw [HRK.out]; exact Nat.le_refl _)
  clear hV b1 hB1 p0 HRK hm
  by_cases hz : n = 0
  · subst hz
    go_wp2_with fail
    go_ret
    exact ⟨rk, _, rfl, HRB.out, Nat.le_trans HB.out.size HR0.out, ⟨by simp, fun x hx => absurd hx (Nat.not_lt_zero _)⟩, HB.out.trans (HVB.out.mono HB.out.size)⟩
  have hnz : ((n : Int) == 0) = false := beq_eq_false_iff_ne.2 (by omega)
  have fz : V.frozen? ⟨rk, 0, none⟩ = false := HRB.out.frozen 0
  have cz : V.cell? ⟨rk, 0, none⟩ = some (.bool false) := by rw [HRB.out.cell, bool_at8 _ _ (by simp; omega), fresh_all]
  go_upto_region 6 with (fail)
  have HRB2 := Lib.hid (show Blk (V.setCell ⟨rk, 0, none⟩ (.bool true)) rk 4 (boolVals ((List.replicate n false).set 0 true)).toArray from bools_set8 _ _ _ ▸ HRB.out.set_ 0 _)
  have HVB2 := Lib.hid (below_set8 (k := 0) HVB.out HR0.out (.bool true))
  have HRr := Lib.hid (rfirst (n := n) (nx := (nxN f.code)))
  generalize V.setCell ⟨rk, 0, none⟩ (.bool true) = V2 at HRB2 HVB2 ⊢
  clear fz cz hz hnz
  go_loopw [4] (fun v4 wr => ∃ (r : Nat) (v : List Bool), r ≤ n ∧ v4 = .int .i64 r ∧ Hid (Blk wr rk 4 (boolVals v).toArray) ∧ Hid (Rr n (nxN f.code) r v) ∧ Hid (Below W.heap.size W wr)) (fun v4 _ => n - (intOf v4).toNat)
  case atStart => exact ⟨0, _, by omega, rfl, HRB2, HRr, HVB2⟩
  case round =>
    obtain ⟨r, v, hr, rfl, K1, K4, K3⟩ := hrel
    by_cases hlt : r < n
    · go_upto_region 9 with (fail)
      obtain ⟨wo, hwo⟩ : ∃ wo : World, wo = wr := ⟨_, rfl⟩
      rw [← hwo]
      rw [← hwo] at K1 K3
      clear hwo wr
      go_loopw [5] (fun v5 wr => ∃ (j : Nat) (u : List Bool), j ≤ n ∧ v5 = .int .i64 j ∧ Hid (Blk wr rk 4 (boolVals u).toArray) ∧ Hid (Rj n (nxN f.code) v j u) ∧ Hid (Below W.heap.size W wr)) (fun v5 _ => n - (intOf v5).toNat)
      case atStart => exact ⟨0, v, by omega, rfl, K1, Lib.hid (Rj.start K4.out), K3⟩
      case round =>
        obtain ⟨j, u, hj, rfl, K1, K5, K3⟩ := hrel
        by_cases hjn : j < n
        · have p0 := P0.out wr K3.out
          have p1 := P1.out wr K3.out
          have HNXj := Lib.hid (HNX.out wr K3.out j)
          obtain ⟨nl, HNL⟩ : ∃ l, Hid (l = (nxN f.code) j) := ⟨_, Lib.hid rfl⟩
          rw [← HNL.out] at HNXj
          go_upto_region 13 with (go_at_call 19; refine HNXj.out.mono ?_; rintro e V4 ⟨LA, cl, rfl, ho4, hb4⟩; have HO4 := Lib.hid ho4; have HB4 := Lib.hid hb4; clear ho4 hb4)
          obtain ⟨len, HLN⟩ : ∃ l, Hid (l = nl.length) := ⟨_, Lib.hid rfl⟩
          rw [← HLN.out] at HO4 ⊢
          have HQ4 := Lib.hid (K1.out.below HB4.out K1.out.lt)
          have HW4 := Lib.hid (K3.out.trans (HB4.out.mono K3.out.size))
          obtain ⟨B4, HB4E⟩ : ∃ q, Hid (q = wr.heap.size) := ⟨_, Lib.hid rfl⟩
          have HGN3 := Lib.hid (show rk < B4 by rw [HB4E.out]; exact K1.out.lt)
          rw [← HB4E.out] at HO4
          go_loopw [7] (fun v7 wr => ∃ (i : Nat) (u : List Bool), i ≤ len ∧ v7 = .int .i64 i ∧ Hid (Blk wr rk 4 (boolVals u).toArray) ∧ Hid (Rj n (nxN f.code) v j u) ∧ Hid (Mk8 (nxN f.code) j i u) ∧ Hid (Own wr B4 3 1 LA len cl (ints (upI nl))) ∧ Hid (Below W.heap.size W wr)) (fun v7 _ => len - (intOf v7).toNat)
          case atStart => exact ⟨0, u, by omega, rfl, HQ4, K5, Lib.hid (Mk8.start _ _ _), HO4, HW4⟩
          case round =>
            obtain ⟨i, u, hi, rfl, K1, K6, K8, K7, K3⟩ := hrel
            have hju : j < u.length := by rw [K6.out.len]; exact hjn
            by_cases hil : i < len
            · have c1 : wr.cell? ⟨rk, j, none⟩ = some (.bool (u.getD j false)) := by rw [K1.out.cell, bool_at8 _ _ hju]
              have HJW := Lib.hid (show wrap64 ((i : Int) + 1) = ((i + 1 : Nat) : Int) by have h1 := own_few8 K7.out; unfold maxLen at h1; unfold wrap64; omega)
              obtain ⟨b, HBE⟩ : ∃ b, Hid (b = u.getD j false) := ⟨_, Lib.hid rfl⟩
              rw [← HBE.out] at c1
              cases b with
              | true =>
                have hi2 : i < nl.length := by rw [← HLN.out]; exact hil
                obtain ⟨y, HY⟩ : ∃ y, Hid (y = nl[i]) := ⟨_, Lib.hid rfl⟩
                have HYM := Lib.hid (show ((nxN f.code) j)[i]? = some y by rw [← HNL.out, HY.out]; exact List.getElem?_eq_getElem hi2)
                have hyn := HXX.out j y (List.mem_of_getElem? HYM.out)
                obtain ⟨lb, lo, e0, hb, hc⟩ := K7.out.row.at_ (k := i) (by simpa [ints, upI] using hi2)
                subst e0
                have d0 := hc i (.int .i64 (y : Int)) (by simp [ints, upI, hi2, HY.out])
                have hyu : y < u.length := by rw [K6.out.len]; exact hyn
                have d1 : wr.cell? ⟨rk, y, none⟩ = some (.bool (u.getD y false)) := by rw [K1.out.cell, bool_at8 _ _ hyu]
                have f1 : wr.frozen? ⟨rk, y, none⟩ = false := K1.out.frozen y
                obtain ⟨by_, HBY⟩ : ∃ b, Hid (b = u.getD y false) := ⟨_, Lib.hid rfl⟩
                rw [← HBY.out] at d1
                obtain ⟨m1, m2, m3⟩ := K6.out.mark HBE.out.symm (List.mem_of_getElem? HYM.out) hyn
                have HM1 := Lib.hid m1
                have HM2 := Lib.hid (K8.out.next HYM.out m2 m3)
                have HQ5 := Lib.hid (show Blk (wr.setCell ⟨rk, y, none⟩ (.bool true)) rk 4 (boolVals (u.set y true)).toArray from bools_set8 _ _ _ ▸ K1.out.set_ y _)
                have HO5 := Lib.hid (K7.out.setCell ⟨rk, y, none⟩ (.bool true) (K7.out.ne_lt HGN3.out))
                have HW5 := Lib.hid (below_set8 (k := y) K3.out HR0.out (.bool true))
                clear m1 m2 m3 hb hc HY hi2 hyu hju
                go_wp2_with fail
                rw [HJW.out]
                exact ⟨⟨i + 1, _, by omega, rfl, HQ5, HM1, HM2, HO5, HW5⟩, by simp only [intOf, Int.toNat_natCast]; omega⟩
              | false =>
                have HSK := Lib.hid (K6.out.skip HBE.out.symm)
                go_wp2_with fail
                exact ⟨⟨j + 1, u, by omega, by go_num, K1, HSK, K3⟩, by simp [intOf]; omega⟩
            · obtain rfl : i = len := by omega
              have HON := Lib.hid (K6.out.on (K8.out.all (by rw [← HNL.out, HLN.out]; exact Nat.le_refl _)))
              have c1 : wr.cell? ⟨rk, j, none⟩ = some (.bool (u.getD j false)) := by rw [K1.out.cell, bool_at8 _ _ hju]
              go_wp2_with fail
              exact ⟨⟨j + 1, u, by omega, by go_num, K1, HON, K3⟩, by simp [intOf]; omega⟩
        · obtain rfl : j = n := by omega
          have HRD := Lib.hid (K5.out.round K4.out)
          go_wp2_with fail
          exact ⟨⟨r + 1, u, by omega, by go_num, K1, HRD, K3⟩, by simp [intOf]; omega⟩
    · obtain rfl : r = n := by omega
      have HD := Lib.hid (K4.out.done (Nat.le_refl _))
      go_wp2_with fail
      go_ret
      exact ⟨rk, v, rfl, K1.out, Nat.le_trans HB.out.size HR0.out, HD.out, HB.out.trans (K3.out.mono HB.out.size)⟩
set_option maxRecDepth 10000 in
set_option maxHeartbeats 8000000 in
theorem rused_any {w : World} {A : Option Addr} {c : Nat} {fs : List Fn} (hf : FnsOk w w.heap.size A fs) (hl : ∀ f ∈ fs, f.code.length ≤ 64) (hn : fs.length ≤ 16) :
    Calls Tryd.prog 25 #[.agg #[.slice A fs.length c]] w (RchOut w fs.length (clN fs)) := by
  obtain ⟨W, HW⟩ : ∃ W, Hid (W = w.alloc (.cells #[.slice A fs.length c] 24)) := ⟨_, Lib.hid rfl⟩
  obtain ⟨fb, HFB⟩ : ∃ q, Hid (q = w.heap.size) := ⟨_, Lib.hid rfl⟩
  have hbw : Below w.heap.size w W := by rw [HW.out]; exact (Below.refl _ w).alloc (Nat.le_refl _) _
  have HB := Lib.hid hbw
  have HP := Lib.hid (show Blk W fb 24 #[.slice A fs.length c] by rw [HW.out, HFB.out]; exact Blk.new w _ _)
  have HF := Lib.hid (hf.step hbw)
  have HNX := Lib.hid (fun (V : World) (h : Below W.heap.size W V) (k : Nat) => (show Calls Tryd.prog 23 #[.agg #[.slice A fs.length c], .int .i64 k] V (RowOut V (clN fs k)) by have h1 := rcalls_any (c := c) (HF.out.step h) hl (k : Int); rw [clZ_nat] at h1; exact h1))
  have HXX := Lib.hid (fun x y (hy : y ∈ clN fs x) => cl_lt hy)
  obtain ⟨n, HNC⟩ : ∃ n, Hid (n = fs.length) := ⟨_, Lib.hid rfl⟩
  rw [← HNC.out] at HW HP HNX HXX hn ⊢
  have P0 := Lib.hid (fun (V : World) (h : Below W.heap.size W V) => (show V.cell? ⟨fb, 0, none⟩ = some (.slice A n c) from ((HP.out.below h HP.out.lt).cell 0).trans rfl))
  have p0 : W.cell? ⟨fb, 0, none⟩ = some (.slice A n c) := P0.out W (.refl _ _)
  have hm : ∀ w, (Instr.makeSlice 28 (.int .i64 (n : Int)) (.int .i64 (n : Int))).run Tryd.prog w = .ok (.slice (some ⟨w.heap.size, 0, none⟩) n n) (w.alloc (.cells (madeCells #[.bool false] n) 4)) :=
    run_make_row' _ _ _ _ Tryd.underlying28 Tryd.infoB9 rfl _ _ n (by omega) (by omega)
  have hw := HW.out
  have hfb := HFB.out
  clear hf hbw hl
  go_enter Tryd.func25, Tryd.ntmps25
  go_upto_region 1 with (fail)
  rw [← hw, ← hfb]
  clear hw hfb
  go_upto_region 2 with (fail)
  generalize hV : W.alloc _ = V
  obtain ⟨b1, hB1⟩ := blk1 W _ _ V hV.symm
  rw [made_bool9] at b1
  obtain ⟨rk, HRK⟩ : ∃ g, Hid (g = W.heap.size) := ⟨_, Lib.hid rfl⟩
  rw [← HRK.out] at b1
  rw [← HRK.out]
  have HRB := Lib.hid b1
  have HVB := Lib.hid hB1
  have HR0 := Lib.hid (show W.heap.size ≤ rk by rw [HRK.out]; exact Nat.le_refl _)
  clear hV b1 hB1 p0 HRK hm
  go_upto_region 3 with (fail)
  go_loopw [4] (fun v4 wr => ∃ (r : Nat) (v : List Bool), r ≤ n + 1 ∧ v4 = .int .i64 r ∧ Hid (Blk wr rk 4 (boolVals v).toArray) ∧ Hid (Rr n (clN fs) r (v.set 0 true)) ∧ Hid (v.length = n) ∧ Hid (0 < r → v.set 0 true = v) ∧ Hid (Below W.heap.size W wr)) (fun v4 _ => n + 1 - (intOf v4).toNat)
  case atStart => exact ⟨0, _, by omega, rfl, HRB, Lib.hid rfirst, Lib.hid (by simp), Lib.hid (fun h => absurd h (Nat.lt_irrefl _)), HVB⟩
  case round =>
    obtain ⟨r, v, hr, rfl, K1, K4, KL, KZ, K3⟩ := hrel
    by_cases hlt : r ≤ n
    · go_upto_region 6 with (fail)
      obtain ⟨wo, hwo⟩ : ∃ wo : World, wo = wr := ⟨_, rfl⟩
      rw [← hwo]
      rw [← hwo] at K1 K3
      clear hwo wr
      go_loopw [5] (fun v5 wr => ∃ (j : Nat) (u : List Bool), j ≤ n ∧ v5 = .int .i64 j ∧ Hid (Blk wr rk 4 (boolVals u).toArray) ∧ Hid (Rj n (clN fs) (v.set 0 true) j (u.set 0 true)) ∧ Hid (u.length = n) ∧ Hid (0 < j → u.set 0 true = u) ∧ Hid (Below W.heap.size W wr)) (fun v5 _ => n - (intOf v5).toNat)
      case atStart => exact ⟨0, v, by omega, rfl, K1, Lib.hid (Rj.start K4.out), KL, Lib.hid (fun h => absurd h (Nat.lt_irrefl _)), K3⟩
      case round =>
        obtain ⟨j, u, hj, rfl, K1, K5, KM, KY, K3⟩ := hrel
        by_cases hjn : j < n
        · have hju : j < u.length := by rw [KM.out]; exact hjn
          have c1 : wr.cell? ⟨rk, j, none⟩ = some (.bool (u.getD j false)) := by rw [K1.out.cell, bool_at8 _ _ hju]
          have f1 : wr.frozen? ⟨rk, j, none⟩ = false := K1.out.frozen j
          obtain ⟨b, HBE⟩ : ∃ b, Hid (b = u.getD j false) := ⟨_, Lib.hid rfl⟩
          rw [← HBE.out] at c1
          have HU1 := Lib.hid (show u.set j (b || decide (j = 0)) = u.set 0 true by
            by_cases e : j = 0
            · subst e; simp
            · rw [decide_eq_false e, Bool.or_false, HBE.out, set_same, KY.out (by omega)])
          have HRB3 := Lib.hid (show Blk (wr.setCell ⟨rk, j, none⟩ (.bool (b || decide (j = 0)))) rk 4 (boolVals (u.set 0 true)).toArray from HU1.out ▸ (bools_set8 u j (b || decide (j = 0)) ▸ K1.out.set_ j _))
          have HVB3 := Lib.hid (below_set8 (k := j) K3.out HR0.out (.bool (b || decide (j = 0))))
          have HJZ : ((j : Int) == 0) = decide (j = 0) := by
            by_cases e : j = 0
            · subst e; rfl
            · rw [decide_eq_false e]; exact beq_eq_false_iff_ne.2 (by omega)
          cases b with
          | true =>
            go_upto_region 9 with (fail)
            generalize hV3 : wr.setCell ⟨rk, j, none⟩ _ = V3
            replace HRB3 := Lib.hid (show Blk V3 rk 4 (boolVals (u.set 0 true)).toArray by rw [← hV3]; exact HRB3.out)
            replace HVB3 := Lib.hid (show Below W.heap.size W V3 by rw [← hV3]; exact HVB3.out)
            clear hV3 c1 f1 HU1 HJZ hju
            have p0 := P0.out V3 HVB3.out
            have HNXj := Lib.hid (HNX.out V3 HVB3.out j)
            obtain ⟨nl, HNL⟩ : ∃ l, Hid (l = (clN fs) j) := ⟨_, Lib.hid rfl⟩
            rw [← HNL.out] at HNXj
            go_upto_region 11 with (go_at_call 23; refine HNXj.out.mono ?_; rintro e V4 ⟨LA, cl, rfl, ho4, hb4⟩; have HO4 := Lib.hid ho4; have HB4 := Lib.hid hb4; clear ho4 hb4)
            obtain ⟨len, HLN⟩ : ∃ l, Hid (l = nl.length) := ⟨_, Lib.hid rfl⟩
            rw [← HLN.out] at HO4 ⊢
            have HQ4 := Lib.hid (HRB3.out.below HB4.out HRB3.out.lt)
            have HW4 := Lib.hid (HVB3.out.trans (HB4.out.mono HVB3.out.size))
            obtain ⟨B4, HB4E⟩ : ∃ q, Hid (q = V3.heap.size) := ⟨_, Lib.hid rfl⟩
            have HGN3 := Lib.hid (show rk < B4 by rw [HB4E.out]; exact HRB3.out.lt)
            rw [← HB4E.out] at HO4
            go_loopw [7] (fun v7 wr => ∃ (i : Nat) (u : List Bool), i ≤ len ∧ v7 = .int .i64 i ∧ Hid (Blk wr rk 4 (boolVals u).toArray) ∧ Hid (Rj n (clN fs) (v.set 0 true) j u) ∧ Hid (Mk8 (clN fs) j i u) ∧ Hid (Own wr B4 3 1 LA len cl (ints (upI nl))) ∧ Hid (Below W.heap.size W wr)) (fun v7 _ => len - (intOf v7).toNat)
            case atStart => exact ⟨0, (u.set 0 true), by omega, rfl, HQ4, K5, Lib.hid (Mk8.start _ _ _), HO4, HW4⟩
            case round =>
              obtain ⟨i, u, hi, rfl, K1, K6, K8, K7, K3⟩ := hrel
              have hju : j < u.length := by rw [K6.out.len]; exact hjn
              by_cases hil : i < len
              · have c1 : wr.cell? ⟨rk, j, none⟩ = some (.bool (u.getD j false)) := by rw [K1.out.cell, bool_at8 _ _ hju]
                have HJW := Lib.hid (show wrap64 ((i : Int) + 1) = ((i + 1 : Nat) : Int) by have h1 := own_few8 K7.out; unfold maxLen at h1; unfold wrap64; omega)
                obtain ⟨b, HBE⟩ : ∃ b, Hid (b = u.getD j false) := ⟨_, Lib.hid rfl⟩
                rw [← HBE.out] at c1
                cases b with
                | true =>
                  have hi2 : i < nl.length := by rw [← HLN.out]; exact hil
                  obtain ⟨y, HY⟩ : ∃ y, Hid (y = nl[i]) := ⟨_, Lib.hid rfl⟩
                  have HYM := Lib.hid (show ((clN fs) j)[i]? = some y by rw [← HNL.out, HY.out]; exact List.getElem?_eq_getElem hi2)
                  have hyn := HXX.out j y (List.mem_of_getElem? HYM.out)
                  obtain ⟨lb, lo, e0, hb, hc⟩ := K7.out.row.at_ (k := i) (by simpa [ints, upI] using hi2)
                  subst e0
                  have d0 := hc i (.int .i64 (y : Int)) (by simp [ints, upI, hi2, HY.out])
                  have hyu : y < u.length := by rw [K6.out.len]; exact hyn
                  have d1 : wr.cell? ⟨rk, y, none⟩ = some (.bool (u.getD y false)) := by rw [K1.out.cell, bool_at8 _ _ hyu]
                  have f1 : wr.frozen? ⟨rk, y, none⟩ = false := K1.out.frozen y
                  obtain ⟨by_, HBY⟩ : ∃ b, Hid (b = u.getD y false) := ⟨_, Lib.hid rfl⟩
                  rw [← HBY.out] at d1
                  obtain ⟨m1, m2, m3⟩ := K6.out.mark HBE.out.symm (List.mem_of_getElem? HYM.out) hyn
                  have HM1 := Lib.hid m1
                  have HM2 := Lib.hid (K8.out.next HYM.out m2 m3)
                  have HQ5 := Lib.hid (show Blk (wr.setCell ⟨rk, y, none⟩ (.bool true)) rk 4 (boolVals (u.set y true)).toArray from bools_set8 _ _ _ ▸ K1.out.set_ y _)
                  have HO5 := Lib.hid (K7.out.setCell ⟨rk, y, none⟩ (.bool true) (K7.out.ne_lt HGN3.out))
                  have HW5 := Lib.hid (below_set8 (k := y) K3.out HR0.out (.bool true))
                  clear m1 m2 m3 hb hc HY hi2 hyu hju
                  go_wp2_with fail
                  rw [HJW.out]
                  exact ⟨⟨i + 1, _, by omega, rfl, HQ5, HM1, HM2, HO5, HW5⟩, by simp only [intOf, Int.toNat_natCast]; omega⟩
                | false =>
                  have HSK := Lib.hid (K6.out.skip HBE.out.symm)
                  go_wp2_with fail
                  exact ⟨⟨j + 1, u, by omega, by go_num, K1, Lib.hid (by rw [zero_up HSK.out K4.out]; exact HSK.out), Lib.hid K6.out.len, Lib.hid (fun _ => zero_up HSK.out K4.out), K3⟩, by simp [intOf]; omega⟩
              · obtain rfl : i = len := by omega
                have HON := Lib.hid (K6.out.on (K8.out.all (by rw [← HNL.out, HLN.out]; exact Nat.le_refl _)))
                have c1 : wr.cell? ⟨rk, j, none⟩ = some (.bool (u.getD j false)) := by rw [K1.out.cell, bool_at8 _ _ hju]
                go_wp2_with fail
                exact ⟨⟨j + 1, u, by omega, by go_num, K1, Lib.hid (by rw [zero_up HON.out K4.out]; exact HON.out), Lib.hid K6.out.len, Lib.hid (fun _ => zero_up HON.out K4.out), K3⟩, by simp [intOf]; omega⟩
          | false =>
            rw [Bool.false_or] at HRB3 HVB3
            clear HU1
            go_upto_region 9 with (fail)
            generalize hV3 : wr.setCell ⟨rk, j, none⟩ _ = V3
            replace HRB3 := Lib.hid (show Blk V3 rk 4 (boolVals (u.set 0 true)).toArray by rw [← hV3]; exact HRB3.out)
            replace HVB3 := Lib.hid (show Below W.heap.size W V3 by rw [← hV3]; exact HVB3.out)
            clear hV3 c1 f1 HJZ hju
            have p0 := P0.out V3 HVB3.out
            have HNXj := Lib.hid (HNX.out V3 HVB3.out j)
            obtain ⟨nl, HNL⟩ : ∃ l, Hid (l = (clN fs) j) := ⟨_, Lib.hid rfl⟩
            rw [← HNL.out] at HNXj
            go_upto_region 11 with (go_at_call 23; refine HNXj.out.mono ?_; rintro e V4 ⟨LA, cl, rfl, ho4, hb4⟩; have HO4 := Lib.hid ho4; have HB4 := Lib.hid hb4; clear ho4 hb4)
            obtain ⟨len, HLN⟩ : ∃ l, Hid (l = nl.length) := ⟨_, Lib.hid rfl⟩
            rw [← HLN.out] at HO4 ⊢
            have HQ4 := Lib.hid (HRB3.out.below HB4.out HRB3.out.lt)
            have HW4 := Lib.hid (HVB3.out.trans (HB4.out.mono HVB3.out.size))
            obtain ⟨B4, HB4E⟩ : ∃ q, Hid (q = V3.heap.size) := ⟨_, Lib.hid rfl⟩
            have HGN3 := Lib.hid (show rk < B4 by rw [HB4E.out]; exact HRB3.out.lt)
            rw [← HB4E.out] at HO4
            go_loopw [7] (fun v7 wr => ∃ (i : Nat) (u : List Bool), i ≤ len ∧ v7 = .int .i64 i ∧ Hid (Blk wr rk 4 (boolVals u).toArray) ∧ Hid (Rj n (clN fs) (v.set 0 true) j u) ∧ Hid (Mk8 (clN fs) j i u) ∧ Hid (Own wr B4 3 1 LA len cl (ints (upI nl))) ∧ Hid (Below W.heap.size W wr)) (fun v7 _ => len - (intOf v7).toNat)
            case atStart => exact ⟨0, (u.set 0 true), by omega, rfl, HQ4, K5, Lib.hid (Mk8.start _ _ _), HO4, HW4⟩
            case round =>
              obtain ⟨i, u, hi, rfl, K1, K6, K8, K7, K3⟩ := hrel
              have hju : j < u.length := by rw [K6.out.len]; exact hjn
              by_cases hil : i < len
              · have c1 : wr.cell? ⟨rk, j, none⟩ = some (.bool (u.getD j false)) := by rw [K1.out.cell, bool_at8 _ _ hju]
                have HJW := Lib.hid (show wrap64 ((i : Int) + 1) = ((i + 1 : Nat) : Int) by have h1 := own_few8 K7.out; unfold maxLen at h1; unfold wrap64; omega)
                obtain ⟨b, HBE⟩ : ∃ b, Hid (b = u.getD j false) := ⟨_, Lib.hid rfl⟩
                rw [← HBE.out] at c1
                cases b with
                | true =>
                  have hi2 : i < nl.length := by rw [← HLN.out]; exact hil
                  obtain ⟨y, HY⟩ : ∃ y, Hid (y = nl[i]) := ⟨_, Lib.hid rfl⟩
                  have HYM := Lib.hid (show ((clN fs) j)[i]? = some y by rw [← HNL.out, HY.out]; exact List.getElem?_eq_getElem hi2)
                  have hyn := HXX.out j y (List.mem_of_getElem? HYM.out)
                  obtain ⟨lb, lo, e0, hb, hc⟩ := K7.out.row.at_ (k := i) (by simpa [ints, upI] using hi2)
                  subst e0
                  have d0 := hc i (.int .i64 (y : Int)) (by simp [ints, upI, hi2, HY.out])
                  have hyu : y < u.length := by rw [K6.out.len]; exact hyn
                  have d1 : wr.cell? ⟨rk, y, none⟩ = some (.bool (u.getD y false)) := by rw [K1.out.cell, bool_at8 _ _ hyu]
                  have f1 : wr.frozen? ⟨rk, y, none⟩ = false := K1.out.frozen y
                  obtain ⟨by_, HBY⟩ : ∃ b, Hid (b = u.getD y false) := ⟨_, Lib.hid rfl⟩
                  rw [← HBY.out] at d1
                  obtain ⟨m1, m2, m3⟩ := K6.out.mark HBE.out.symm (List.mem_of_getElem? HYM.out) hyn
                  have HM1 := Lib.hid m1
                  have HM2 := Lib.hid (K8.out.next HYM.out m2 m3)
                  have HQ5 := Lib.hid (show Blk (wr.setCell ⟨rk, y, none⟩ (.bool true)) rk 4 (boolVals (u.set y true)).toArray from bools_set8 _ _ _ ▸ K1.out.set_ y _)
                  have HO5 := Lib.hid (K7.out.setCell ⟨rk, y, none⟩ (.bool true) (K7.out.ne_lt HGN3.out))
                  have HW5 := Lib.hid (below_set8 (k := y) K3.out HR0.out (.bool true))
                  clear m1 m2 m3 hb hc HY hi2 hyu hju
                  go_wp2_with fail
                  rw [HJW.out]
                  exact ⟨⟨i + 1, _, by omega, rfl, HQ5, HM1, HM2, HO5, HW5⟩, by simp only [intOf, Int.toNat_natCast]; omega⟩
                | false =>
                  have HSK := Lib.hid (K6.out.skip HBE.out.symm)
                  go_wp2_with fail
                  exact ⟨⟨j + 1, u, by omega, by go_num, K1, Lib.hid (by rw [zero_up HSK.out K4.out]; exact HSK.out), Lib.hid K6.out.len, Lib.hid (fun _ => zero_up HSK.out K4.out), K3⟩, by simp [intOf]; omega⟩
              · obtain rfl : i = len := by omega
                have HON := Lib.hid (K6.out.on (K8.out.all (by rw [← HNL.out, HLN.out]; exact Nat.le_refl _)))
                have c1 : wr.cell? ⟨rk, j, none⟩ = some (.bool (u.getD j false)) := by rw [K1.out.cell, bool_at8 _ _ hju]
                go_wp2_with fail
                exact ⟨⟨j + 1, u, by omega, by go_num, K1, Lib.hid (by rw [zero_up HON.out K4.out]; exact HON.out), Lib.hid K6.out.len, Lib.hid (fun _ => zero_up HON.out K4.out), K3⟩, by simp [intOf]; omega⟩
        · obtain rfl : j = n := by omega
          have HRD := Lib.hid (K5.out.round K4.out)
          have hu : u.set 0 true = u := set_zero KM.out (fun h0 => by have h1 := HRD.out.zero h0; have hne : 0 < j := h0; rw [KY.out hne] at h1; exact h1)
          have HUE := Lib.hid hu
          clear hu
          go_wp2_with fail
          exact ⟨⟨r + 1, u, by omega, by go_num, K1, HRD, KM, Lib.hid (fun _ => HUE.out), K3⟩, by simp [intOf]; omega⟩
    · obtain rfl : r = n + 1 := by omega
      have HD := Lib.hid (K4.out.done (by omega))
      rw [KZ.out (by omega)] at HD
      go_wp2_with fail
      go_ret
      exact ⟨rk, v, rfl, K1.out, Nat.le_trans HB.out.size HR0.out, HD.out, HB.out.trans (K3.out.mono HB.out.size)⟩
end Go.Proofs.YtdpacdmaadodiaaDoor

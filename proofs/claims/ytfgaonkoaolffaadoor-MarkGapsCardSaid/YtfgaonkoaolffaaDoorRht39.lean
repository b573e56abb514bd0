/-
  Chapter 39: the reference's Right, Cost, Heads. Conditions: the function lies in memory.
-/
import Derived.Test.YtfgaonkoaolffaaDoorHds39
import Derived.Test.YtfgaonkoaolffaaDoorRnx8
namespace Go.Proofs.YtfgaonkoaolffaaDoor
open Go.RowKit
theorem rright_any {w : World} {C S : Option Addr} {n c m d : Nat} (hn : n ≤ 64) (hm : m ≤ 64) :
    Calls Tryd.prog 24 #[.agg #[.slice C n c, .slice S m d]] w fun e w' => e = .returned (.bool true) ∧ Below w.heap.size w w' := by
  have HB := Lib.hid ((Below.refl w.heap.size w).alloc (Nat.le_refl _) (.cells #[.slice C n c, .slice S m d] 39))
  have h1 : decide ((n : Int) ≤ 64) = true := decide_eq_true (by omega)
  have h2 : decide ((m : Int) ≤ 64) = true := decide_eq_true (by omega)
  go_enter Tryd.func24, Tryd.ntmps24
  go_wp2_with fail
  go_ret
  exact ⟨rfl, HB.out⟩
set_option maxHeartbeats 2000000 in
theorem rcost_any {w : World} {C S : Option Addr} {n c m d : Nat} (l : List Bool) (hr : Row w w.heap.size S (boolVals l)) (hl : l.length = m) (hn : n ≤ 64) (hm : m ≤ 64) :
    Calls Tryd.prog 29 #[.agg #[.slice C n c, .slice S m d]] w fun e w' => e = .returned (.int .i64 (l.count true : Nat)) ∧ Below w.heap.size w w' := by
  obtain ⟨W, HW⟩ : ∃ W, Hid (W = w.alloc (.cells #[.slice C n c, .slice S m d] 39)) := ⟨_, Lib.hid rfl⟩
  have HB := Lib.hid (show Below w.heap.size w W by rw [HW.out]; exact (Below.refl _ _).alloc (Nat.le_refl _) _)
  obtain ⟨pb, HPB⟩ : ∃ q, Hid (q = w.heap.size) := ⟨_, Lib.hid rfl⟩
  have HP := Lib.hid (show Blk W pb 39 #[.slice C n c, .slice S m d] by rw [HW.out, HPB.out]; exact Blk.new w _ _)
  have HRI := Lib.hid (fun (V : World) => rright_any (w := V) (C := C) (S := S) (c := c) (d := d) hn hm)
  have HR := Lib.hid ((hr.below HB.out).more HB.out.size)
  have P0 := Lib.hid (fun (V : World) (h : Below W.heap.size W V) => (show V.cell? ⟨pb, 0, none⟩ = some (.slice C n c) from ((HP.out.below h HP.out.lt).cell 0).trans rfl))
  have P1 := Lib.hid (fun (V : World) (h : Below W.heap.size W V) => (show V.cell? ⟨pb, 1, none⟩ = some (.slice S m d) from ((HP.out.below h HP.out.lt).cell 1).trans rfl))
  have HL := Lib.hid hl
  have hw := HW.out
  have hpb := HPB.out
  clear hr hl
  go_enter Tryd.func29, Tryd.ntmps29
  go_upto_region 1 with (fail)
  rw [← hw, ← hpb]
  clear hw hpb
  go_upto_region 3 with (fail)
  go_loopw [3, 4] (fun v2 vi wr => ∃ k : Nat, k ≤ m ∧ vi = .int .i64 k ∧ v2 = .int .i64 ((l.take k).count true : Nat) ∧ Hid (Below W.heap.size W wr)) (fun _ vi _ => m - (intOf vi).toNat)
  case atStart => exact ⟨0, by omega, rfl, rfl, Lib.hid (.refl _ _)⟩
  case round =>
    obtain ⟨k, hk, rfl, rfl, K1⟩ := hrel
    obtain ⟨q, HQ⟩ : ∃ q, Hid (q = (l.take k).count true) := ⟨_, Lib.hid rfl⟩
    have hq : q ≤ k := by rw [HQ.out]; exact Nat.le_trans List.count_le_length (by rw [List.length_take]; omega)
    rw [← HQ.out]
    have p0 := P0.out wr K1.out
    have p1 := P1.out wr K1.out
    by_cases hlt : k < m
    · have hkl : k < l.length := by rw [HL.out]; exact hlt
      obtain ⟨b, off, e0, hb, hc⟩ := HR.out.at_ (k := k) (by simpa [boolVals] using hkl)
      subst e0
      have HC0 := Lib.hid (fun (V : World) (h : Below W.heap.size W V) => (h.cell (p := ⟨b, off + k, none⟩) hb).trans (hc k _ (boolVals_at l k hkl)))
      have HS := Lib.hid (count_take l k hkl)
      rw [← HQ.out, show l.getD k false = l[k] by simp [hkl]] at HS
      obtain ⟨y, HY⟩ : ∃ y, Hid (y = l[k]) := ⟨_, Lib.hid rfl⟩
      rw [← HY.out] at HC0 HS
      clear hb hc HY
      cases y with
      | true =>
        go_wp2_with (go_at_call 24; refine (HRI.out wr).mono ?_; rintro e V ⟨rfl, hb⟩; have HV := Lib.hid (K1.out.trans (hb.mono K1.out.size)); have q1 := P1.out V HV.out; have c0 := HC0.out V HV.out; clear hb)
        exact ⟨⟨k + 1, by omega, by go_num, by rw [HS.out]; go_num, HV⟩, by simp [intOf]; omega⟩
      | false =>
        go_wp2_with (go_at_call 24; refine (HRI.out wr).mono ?_; rintro e V ⟨rfl, hb⟩; have HV := Lib.hid (K1.out.trans (hb.mono K1.out.size)); have q1 := P1.out V HV.out; have c0 := HC0.out V HV.out; clear hb)
        exact ⟨⟨k + 1, by omega, by go_num, by rw [HS.out]; rfl, HV⟩, by simp [intOf]; omega⟩
    · have HE := Lib.hid (show l.take k = l from List.take_of_length_le (by rw [HL.out]; omega))
      go_wp2_with fail
      go_ret
      rw [HQ.out, HE.out]
      exact ⟨rfl, HB.out.trans (K1.out.mono HB.out.size)⟩
theorem filter_on (l : List Nat) (p : Nat → Bool) (i y : Nat) (h : l[i]? = some y) : (l.take (i + 1)).filter p = (l.take i).filter p ++ if p y = true then [y] else [] := by
  have e : l.take (i + 1) = l.take i ++ [y] := by rw [List.take_add_one, h]; rfl
  rw [e, List.filter_append]
  cases hp : p y <;> simp [hp]
theorem srt_few (l : List Nat) : (srtN l).length ≤ l.length := by
  have := fold_len9 l []
  simpa [srtN] using this
theorem srt_add (l : List Nat) (x : Nat) : srtN (l ++ [x]) = addN (srtN l) x := by
  unfold srtN
  rw [List.foldl_append]
  rfl
set_option maxRecDepth 10000 in
set_option maxHeartbeats 4000000 in
theorem rheads_any {w : World} {C S : Option Addr} {n c m d : Nat} {f : Fn} (hf : FnOk w w.heap.size ⟨C, n, c, S, m, d⟩ f) (hn : n ≤ 64) (hm : m ≤ 64) :
    Calls Tryd.prog 25 #[.agg #[.slice C n c, .slice S m d]] w (RowOut w (hds f)) := by
  obtain ⟨W, HW⟩ : ∃ W, Hid (W = w.alloc (.cells #[.slice C n c, .slice S m d] 39)) := ⟨_, Lib.hid rfl⟩
  obtain ⟨fb, HFB⟩ : ∃ q, Hid (q = w.heap.size) := ⟨_, Lib.hid rfl⟩
  have hbw : Below w.heap.size w W := by rw [HW.out]; exact (Below.refl _ w).alloc (Nat.le_refl _) _
  have HB := Lib.hid hbw
  have HP := Lib.hid (show Blk W fb 39 #[.slice C n c, .slice S m d] by rw [HW.out, HFB.out]; exact Blk.new w _ _)
  have HF := Lib.hid (hf.step hbw)
  have HNC := Lib.hid (show n = f.code.length from hf.1)
  have HRI := Lib.hid (fun (V : World) => rright_any (w := V) (C := C) (S := S) (c := c) (d := d) hn hm)
  have P0 := Lib.hid (fun (V : World) (h : Below W.heap.size W V) => (show V.cell? ⟨fb, 0, none⟩ = some (.slice C n c) from ((HP.out.below h HP.out.lt).cell 0).trans rfl))
  have P1 := Lib.hid (fun (V : World) (h : Below W.heap.size W V) => (show V.cell? ⟨fb, 1, none⟩ = some (.slice S m d) from ((HP.out.below h HP.out.lt).cell 1).trans rfl))
  have HNX := Lib.hid (fun (V : World) (h : Below W.heap.size W V) (k : Nat) => (show Calls Tryd.prog 28 #[.agg #[.slice C n c, .slice S m d], .int .i64 k] V (RowOut V (nxN f.code k)) by have h1 := rnext_any (HF.out.step h) (by omega) (k : Int); rw [nxZ_nat] at h1; exact h1))
  have hw := HW.out
  have hfb := HFB.out
  clear hf hbw
  go_enter Tryd.func25, Tryd.ntmps25
  go_upto_region 1 with (fail)
  rw [← hw, ← hfb]
  clear hw hfb
  go_upto_region 3 with (fail)
  go_loopw [3, 4] (fun v3 v4 wr => ∃ (j nl cc : Nat) (A' : Option Addr), j ≤ n ∧ v4 = .int .i64 j ∧ v3 = .slice A' nl cc ∧ Hid (NewRow W wr A' nl cc (srtN (hdL (nxN f.code) j))) ∧ Hid (Below W.heap.size W wr)) (fun _ v4 _ => n - (intOf v4).toNat)
  case atStart => exact ⟨0, 0, 0, none, by omega, rfl, rfl, Lib.hid (NewRow.nil _ _), Lib.hid (.refl _ _)⟩
  case round =>
    obtain ⟨j, nl, cc, A', hj, rfl, rfl, K1, K3⟩ := hrel
    have p0 := P0.out wr K3.out
    have p1 := P1.out wr K3.out
    by_cases hlt : j < n
    · go_upto_region 5 with (go_at_call 24; refine (HRI.out wr).mono ?_; rintro e V ⟨rfl, hb⟩; have HVr := Lib.hid hb; have HV := Lib.hid (K3.out.trans (hb.mono K3.out.size)); have q0 := P0.out V HV.out; have q1 := P1.out V HV.out; clear hb)
      have HNXj := Lib.hid (HNX.out V HV.out j)
      obtain ⟨nx, HNE⟩ : ∃ l, Hid (l = nxN f.code j) := ⟨_, Lib.hid rfl⟩
      rw [← HNE.out] at HNXj
      have HFEW := Lib.hid (show nx.length ≤ 2 by rw [HNE.out]; exact nx_few9 _ _)
      clear p0 p1
      go_upto_region 7 with (go_at_call 28; refine HNXj.out.mono ?_; rintro e V1 ⟨LA, lc, rfl, ho, hb⟩; have HO1 := Lib.hid ho; have HV1 := Lib.hid hb; clear ho hb)
      have HW1 := Lib.hid (HV.out.trans (HV1.out.mono HV.out.size))
      have HK1 := Lib.hid ((K1.out.keep HVr.out).keep HV1.out)
      obtain ⟨len, HLN⟩ : ∃ q, Hid (q = nx.length) := ⟨_, Lib.hid rfl⟩
      have hlen : len ≤ 2 := by rw [HLN.out]; exact HFEW.out
      rw [← HLN.out] at HO1 ⊢
      have HRW := Lib.hid HO1.out.row
      clear q0 q1
      obtain ⟨B1, HB1⟩ : ∃ q, Hid (q = V1.heap.size) := ⟨_, Lib.hid rfl⟩
      rw [← HB1.out] at HRW
      go_loopw [3, 6] (fun v3 v6 wr => ∃ (i nl cc : Nat) (A' : Option Addr), i ≤ len ∧ v6 = .int .i64 i ∧ v3 = .slice A' nl cc ∧ Hid (NewRow W wr A' nl cc (srtN (hdL (nxN f.code) j ++ (nx.take i).filter fun y => decide (y ≤ j)))) ∧ Hid (Below W.heap.size W wr) ∧ Hid (Row wr B1 LA (ints (upI nx))) ∧ Hid (B1 ≤ wr.heap.size)) (fun _ v6 _ => len - (intOf v6).toNat)
      case atStart => exact ⟨0, nl, cc, A', by omega, rfl, rfl, Lib.hid (by rw [List.take_zero, List.filter_nil, List.append_nil]; exact HK1.out), HW1, HRW, Lib.hid (by rw [HB1.out]; exact Nat.le_refl _)⟩
      case round =>
        obtain ⟨i, nl, cc, A', hi, rfl, rfl, K1, K3, K4, K5⟩ := hrel
        by_cases hil : i < len
        · have hi2 : i < nx.length := by rw [← HLN.out]; exact hil
          obtain ⟨b, off, e0, hb, hc⟩ := K4.out.at_ (k := i) (by rw [ups_len]; exact hi2)
          subst e0
          have c0 := hc i _ (ups_at nx i hi2)
          obtain ⟨y, HY⟩ : ∃ y, Hid (y = nx[i]) := ⟨_, Lib.hid rfl⟩
          rw [← HY.out] at c0
          have HFO := Lib.hid (filter_on nx (fun y => decide (y ≤ j)) i y (by rw [HY.out]; exact List.getElem?_eq_getElem hi2))
          obtain ⟨l, HL⟩ : ∃ l, Hid (l = hdL (nxN f.code) j ++ (nx.take i).filter fun y => decide (y ≤ j)) := ⟨_, Lib.hid rfl⟩
          rw [← HL.out] at K1
          have HLE := Lib.hid (show (srtN l).length ≤ 1000 by
            have h1 := srt_few l
            have h2 := hdL_len f.code j
            have h3 := List.length_filter_le (fun y => decide (y ≤ j)) (nx.take i)
            have h4 : (nx.take i).length ≤ 2 := by rw [List.length_take]; have := HFEW.out; omega
            have h5 := congrArg List.length HL.out
            rw [List.length_append] at h5
            omega)
          by_cases hy : y ≤ j
          · have hd : decide (y ≤ j) = true := decide_eq_true hy
            have HLN1 := Lib.hid (show hdL (nxN f.code) j ++ (nx.take (i + 1)).filter (fun y => decide (y ≤ j)) = l ++ [y] by rw [HFO.out, if_pos hd, ← List.append_assoc, HL.out])
            have HHAS := Lib.hid (has_any (c := cc) (srtN l) y K1.out.2.1.row HLE.out)
            rw [← K1.out.1] at HHAS
            by_cases hm : y ∈ srtN l
            · have HS := Lib.hid (show srtN (l ++ [y]) = srtN l by rw [srt_add, add_is, if_pos hm])
              rw [decide_eq_true hm] at HHAS
              clear hm hy hb hc
              go_wp2_with (go_at_call 27; refine HHAS.out.mono ?_; rintro e V ⟨rfl, rfl⟩)
              exact ⟨⟨i + 1, nl, cc, A', by omega, by go_num, rfl, Lib.hid (by rw [HLN1.out, HS.out]; exact K1.out), K3, K4, K5⟩, by simp [intOf]; omega⟩
            · have HS := Lib.hid (show srtN (l ++ [y]) = insN (srtN l) y by rw [srt_add, add_is, if_neg hm])
              have HINS := Lib.hid (insert_any (c := cc) (srtN l) y K1.out.2.1.row HLE.out (by rw [← K1.out.1]; exact K1.out.2.2))
              rw [← K1.out.1] at HINS
              rw [decide_eq_false hm] at HHAS
              clear hm hy hb hc
              go_wp2_with (first | (go_at_call 27; refine HHAS.out.mono ?_; rintro e V ⟨rfl, rfl⟩) | (go_at_call 43; refine HINS.out.mono ?_; rintro e V ⟨A6, c6, rfl, ho, hb⟩; have HO6 := Lib.hid ho; have HV6 := Lib.hid hb; clear ho hb))
              exact ⟨⟨i + 1, _, c6, A6, by omega, by go_num, rfl, Lib.hid (by
                rw [HLN1.out, HS.out]
                exact ⟨rfl, own_base HO6.out K3.out.size, by
                  rcases HO6.out.2 with ⟨hv, hn⟩ | ⟨g, cap, cur, hv, _, _, hc, _⟩
                  · omega
                  · injection hv with _ _ h; omega⟩), Lib.hid (K3.out.trans (HV6.out.mono K3.out.size)), Lib.hid (K4.out.below (HV6.out.mono K5.out)), Lib.hid (Nat.le_trans K5.out HV6.out.size)⟩, by simp [intOf]; omega⟩
          · have hd : decide (y ≤ j) = false := decide_eq_false hy
            have HLN1 := Lib.hid (show hdL (nxN f.code) j ++ (nx.take (i + 1)).filter (fun y => decide (y ≤ j)) = l by rw [HFO.out, if_neg (by rw [hd]; decide), List.append_nil, HL.out])
            clear hy hb hc
            go_wp2_with fail
            exact ⟨⟨i + 1, nl, cc, A', by omega, by go_num, rfl, Lib.hid (by rw [HLN1.out]; exact K1.out), K3, K4, K5⟩, by simp [intOf]; omega⟩
        · have HE := Lib.hid (show nx.take i = nx from List.take_of_length_le (by have := HLN.out; omega))
          have HK := Lib.hid (show NewRow W wr A' nl cc (srtN (hdL (nxN f.code) (j + 1))) by rw [hdL_succ, ← HNE.out]; have h := K1.out; rw [HE.out] at h; exact h)
          go_wp2_with fail
          exact ⟨⟨j + 1, nl, cc, A', by omega, by go_num, rfl, HK, K3⟩, by simp [intOf]; omega⟩
    · have HE := Lib.hid (show hds f = srtN (hdL (nxN f.code) j) by unfold hds; rw [← HNC.out, show j = n by omega])
      go_wp2_with fail
      go_ret
      rw [HE.out]
      exact K1.out.out HB.out K3.out
end Go.Proofs.YtfgaonkoaolffaaDoor

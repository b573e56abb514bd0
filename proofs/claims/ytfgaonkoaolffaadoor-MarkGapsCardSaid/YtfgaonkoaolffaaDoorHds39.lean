/-
  Chapter 39: mark.Heads. Conditions: the table is laid, the function lies in memory.
-/
import Derived.Test.YtfgaonkoaolffaaDoorDel39
import Derived.Test.YtfgaonkoaolffaaDoorRgt39
import Derived.Test.YtfgaonkoaolffaaDoorApp
namespace Go.Proofs.YtfgaonkoaolffaaDoor
open Go.RowKit
theorem nx_rise (code : List Ins) (x : Nat) : (nxN code x).Pairwise (· < ·) := by
  unfold nxN
  split
  · exact srt_rise _
  · exact .nil
theorem addN_len9 (l : List Nat) (x : Nat) : (addN l x).length ≤ l.length + 1 := by
  unfold addN
  split
  · omega
  · have h := congrArg List.length (List.takeWhile_append_dropWhile (p := fun y => decide (y < x)) (l := l))
    simp only [List.length_append, List.length_cons] at h ⊢
    omega
theorem fold_len9 (l acc : List Nat) : (l.foldl addN acc).length ≤ acc.length + l.length := by
  induction l generalizing acc with
  | nil => exact Nat.le_refl _
  | cons x l ih =>
    rw [List.foldl_cons]
    have h1 := ih (addN acc x)
    have h2 := addN_len9 acc x
    simp only [List.length_cons]
    omega
theorem nx_few9 (code : List Ins) (x : Nat) : (nxN code x).length ≤ 2 := by
  unfold nxN
  split
  · have h1 := fold_len9 (tgtN code.length code[x] ++ onN code.length x code[x]) []
    have h2 : (tgtN code.length code[x]).length ≤ 1 := by unfold tgtN; split <;> simp
    have h3 : (onN code.length x code[x]).length ≤ 1 := by unfold onN; split <;> simp
    unfold srtN
    simp only [List.length_append, List.length_nil] at h1
    omega
  · exact Nat.zero_le _
theorem hdL_succ (nx : Nat → List Nat) (k : Nat) : hdL nx (k + 1) = hdL nx k ++ (nx k).filter fun y => decide (y ≤ k) := by
  unfold hdL
  rw [List.range_succ, List.flatMap_append]
  simp
theorem hdL_len (code : List Ins) (k : Nat) : (hdL (nxN code) k).length ≤ 2 * k := by
  induction k with
  | zero => exact Nat.le_refl _
  | succ k ih =>
    rw [hdL_succ, List.length_append]
    have h1 := List.length_filter_le (fun y => decide (y ≤ k)) (nxN code k)
    have h2 := nx_few9 code k
    omega
set_option maxRecDepth 10000 in
set_option maxHeartbeats 4000000 in
theorem heads_any {w : World} {C S : Option Addr} {n c m d : Nat} {f : Fn} (hT : Tab w) (hf : FnOk w w.heap.size ⟨C, n, c, S, m, d⟩ f) (hn : n ≤ 64) (hm : m ≤ 64) :
    Calls Tryd.prog 21 #[.agg #[.slice C n c, .slice S m d]] w (RowOut w (hds f)) := by
  obtain ⟨W, HW⟩ : ∃ W, Hid (W = w.alloc (.cells #[.slice C n c, .slice S m d] 39)) := ⟨_, Lib.hid rfl⟩
  obtain ⟨fb, HFB⟩ : ∃ q, Hid (q = w.heap.size) := ⟨_, Lib.hid rfl⟩
  have hbw : Below w.heap.size w W := by rw [HW.out]; exact (Below.refl _ w).alloc (Nat.le_refl _) _
  have HB := Lib.hid hbw
  have HP := Lib.hid (show Blk W fb 39 #[.slice C n c, .slice S m d] by rw [HW.out, HFB.out]; exact Blk.new w _ _)
  have HF := Lib.hid (hf.step hbw)
  have HT := Lib.hid (hT.step hbw)
  have HNC := Lib.hid (show n = f.code.length from hf.1)
  have HRI := Lib.hid (right_any (w := W) (C := C) (S := S) (c := c) (d := d) hn hm)
  have p0 : W.cell? ⟨fb, 0, none⟩ = some (.slice C n c) := (HP.out.cell 0).trans rfl
  have p1 : W.cell? ⟨fb, 1, none⟩ = some (.slice S m d) := (HP.out.cell 1).trans rfl
  have P0 := Lib.hid (fun (V : World) (h : Below W.heap.size W V) => (show V.cell? ⟨fb, 0, none⟩ = some (.slice C n c) from ((HP.out.below h HP.out.lt).cell 0).trans rfl))
  have P1 := Lib.hid (fun (V : World) (h : Below W.heap.size W V) => (show V.cell? ⟨fb, 1, none⟩ = some (.slice S m d) from ((HP.out.below h HP.out.lt).cell 1).trans rfl))
  have HNX := Lib.hid (fun (V : World) (h : Below W.heap.size W V) (k : Nat) => (show Calls Tryd.prog 22 #[.agg #[.slice C n c, .slice S m d], .int .i64 k] V (RowOut V (nxN f.code k)) by have h1 := next_any (HT.out.step h) (HF.out.step h) (by omega) (k : Int); rw [nxZ_nat] at h1; exact h1))
  obtain ⟨i0, hi, hz0, hz1, hz2⟩ := info_parts Tryd.infoI3
  have HI := Lib.hid hi
  have HZ0 := Lib.hid hz0
  have HZ1 := Lib.hid hz1
  have HZ2 := Lib.hid hz2
  have hw := HW.out
  have hfb := HFB.out
  clear hf hT hbw hi hz0 hz1 hz2
  go_enter Tryd.func21, Tryd.ntmps21
  go_upto_region 1 with (fail)
  rw [← hw, ← hfb]
  clear hw hfb
  go_upto_region 4 with (go_at_call 18; refine HRI.out.mono ?_; rintro e V0 ⟨rfl, hb⟩; have HV0 := Lib.hid hb; have q0 := P0.out V0 hb; clear hb)
  clear p0 p1 q0
  go_loopw [2, 11] (fun v2 vi wr => ∃ (j nl cc : Nat) (A' : Option Addr) (l : List Nat), j ≤ n ∧ vi = .int .i64 j ∧ v2 = .slice A' nl cc ∧ Hid (l = hdL (nxN f.code) j) ∧ Hid (nl = l.length) ∧ Hid (Own wr W.heap.size 3 1 A' nl cc (ints (upI l))) ∧ Hid (Below W.heap.size W wr)) (fun _ vi _ => n - (intOf vi).toNat)
  case atStart => exact ⟨0, 0, 0, none, [], by omega, rfl, rfl, Lib.hid rfl, Lib.hid rfl, Lib.hid (Own.nil _ _ _ _), HV0⟩
  case round =>
    obtain ⟨j, nl, cc, A', l, hj, rfl, rfl, K1, KL, K2, K3⟩ := hrel
    by_cases hlt : j < n
    · have p0 := P0.out wr K3.out
      go_upto_region 6 with (fail)
      obtain ⟨V, HV⟩ : ∃ V, Hid (V = wr.alloc (.cells #[.int .i64 (j : Int)] 3)) := ⟨_, Lib.hid rfl⟩
      obtain ⟨pb, HPB⟩ : ∃ q, Hid (q = wr.heap.size) := ⟨_, Lib.hid rfl⟩
      rw [← HV.out, ← HPB.out]
      have HBV := Lib.hid (show Below wr.heap.size wr V by rw [HV.out]; exact (Below.refl _ _).alloc (Nat.le_refl _) _)
      have HPV := Lib.hid (show Blk V pb 3 #[.int .i64 (j : Int)] by rw [HV.out, HPB.out]; exact Blk.new wr _ _)
      have HWV := Lib.hid (K3.out.trans (HBV.out.mono K3.out.size))
      have v0 := P0.out V HWV.out
      have v1 := P1.out V HWV.out
      have vp : V.cell? ⟨pb, 0, none⟩ = some (.int .i64 (j : Int)) := (HPV.out.cell 0).trans rfl
      have HNXj := Lib.hid (HNX.out V HWV.out j)
      obtain ⟨nx, HNE⟩ : ∃ l, Hid (l = nxN f.code j) := ⟨_, Lib.hid rfl⟩
      rw [← HNE.out] at HNXj
      have HRISE := Lib.hid (show nx.Pairwise (· < ·) by rw [HNE.out]; exact nx_rise _ _)
      have HFEW := Lib.hid (show nx.length ≤ 2 by rw [HNE.out]; exact nx_few9 _ _)
      obtain ⟨fl, HFL⟩ : ∃ l, Hid (l = nx.filter fun y => decide (y ≤ j)) := ⟨_, Lib.hid rfl⟩
      have HFLN := Lib.hid (show fl.length ≤ 2 by rw [HFL.out]; exact Nat.le_trans (List.length_filter_le _ _) HFEW.out)
      have HL1 := Lib.hid (show hdL (nxN f.code) (j + 1) = l ++ fl by rw [hdL_succ, K1.out, HFL.out, HNE.out])
      have HLL := Lib.hid (show l.length ≤ 128 by rw [K1.out]; have := hdL_len f.code j; omega)
      have HO2 := Lib.hid (own_low K2.out HBV.out)
      clear p0
      go_upto_region 8 with (first | (go_at_call 22; refine HNXj.out.mono ?_; rintro e V1 ⟨LA, lc, rfl, ho, hb⟩; have HO1 := Lib.hid ho; have HV1 := Lib.hid hb; clear ho hb) | (go_at_call 37; refine (delete_any (pc := j) nx HO1.out HRISE.out (by have := HFEW.out; omega) HV1.out.size HPV.out.lt (((HPV.out.below HV1.out HPV.out.lt).cell 0).trans rfl)).mono ?_; rintro e V2 ⟨DA, dc, rfl, hr, hb⟩; rw [← HFL.out] at hr ⊢; have HR2 := Lib.hid hr; have HV2 := Lib.hid (HV1.out.trans hb); have HW2 := Lib.hid (HWV.out.trans (HV2.out.mono HWV.out.size)); have HO3 := Lib.hid (own_low HO2.out HV2.out); clear hr hb) | (at_builtin; go_must (refine wpList_append_row _ rfl _ _ 51 rfl W.heap.size 3 i0 _ 1 8 Tryd.underlying51 HI.out HZ0.out HZ1.out HZ2.out rfl (by decide) _ _ _ _ rfl HO3.out _ _ _ _ (ints (upI fl)) rfl (by rw [ups_len, Nat.mul_one]) HR2.out (ups_one _) (by have h1 := KL.out; have h2 := HLL.out; have h3 := HFLN.out; unfold maxLen; omega) (by have h1 := KL.out; have h2 := HLL.out; have h3 := HFLN.out; omega) HW2.out.size ?_); intro A4 c4 V4 hown hgrow _; have HO4 := Lib.hid hown; have HW4 := Lib.hid (HW2.out.grown hgrow HW2.out.size (fun q hq => (HO3.out.lt q hq).1)); clear hown hgrow))
      go_wp2_with fail
      exact ⟨⟨j + 1, nl + fl.length, c4, A4, l ++ fl, by omega, by go_num, rfl, Lib.hid (HL1.out.symm), Lib.hid (by rw [List.length_append, KL.out]), Lib.hid (by have h := HO4.out; simpa [ints, upI] using h), HW4⟩, by simp [intOf]; omega⟩
    · obtain rfl : j = n := by omega
      have HE := Lib.hid (show hds f = srtN l by unfold hds; rw [K1.out, HNC.out])
      have HZL := Lib.hid (show nl ≤ 65536 by rw [KL.out, K1.out]; have := hdL_len f.code j; omega)
      go_wp2_with (first | (go_at_call 38; refine (sort_any (l := upI l) K2.out K3.out.size HZL.out).mono ?_; rintro e V5 ⟨rfl, ho5, hb5⟩; have HO5 := Lib.hid ho5; have HV5 := Lib.hid (K3.out.trans hb5); clear ho5 hb5) | (go_at_call 39; refine (compact_any HO5.out).mono ?_; rintro e V6 ⟨rfl, ho6, hb6⟩; have HO6 := Lib.hid ho6; have HV6 := Lib.hid (HV5.out.trans hb6); clear ho6 hb6))
      go_ret
      rw [HE.out]
      exact RowOut.of (own_base HO6.out HB.out.size) rfl (HB.out.trans (HV6.out.mono HB.out.size))
end Go.Proofs.YtfgaonkoaolffaaDoor

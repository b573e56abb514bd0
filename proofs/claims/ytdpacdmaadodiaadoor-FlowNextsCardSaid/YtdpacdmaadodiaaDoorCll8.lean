/-
  Chapter 8: which functions a function names: flow.Calls, the reference's Calls. Conditions: the table is laid, the program lies in memory.
-/
import Derived.Test.YtdpacdmaadodiaaDoorIns8
import Derived.Test.YtdpacdmaadodiaaDoorRnx8
namespace Go.Proofs.YtdpacdmaadodiaaDoor
open Go.RowKit
/-- Whom an instruction names. -/
def toF (m : Nat) (i : Ins) : List Nat := if opTarget i.op = 2 ∧ 0 ≤ i.n ∧ i.n < m then [i.n.toNat] else []
def clN (fs : List Fn) (k : Nat) : List Nat := if h : k < fs.length then srtN (fs[k].code.flatMap (toF fs.length)) else []
def clZ (fs : List Fn) (fi : Int) : List Nat := if 0 ≤ fi then clN fs fi.toNat else []
theorem clZ_nat (fs : List Fn) (k : Nat) : clZ fs k = clN fs k := by
  unfold clZ
  rw [if_pos (by omega)]
  rfl
theorem toF_len (m : Nat) (i : Ins) : (toF m i).length ≤ 1 := by unfold toF; split <;> simp
theorem toF_lt {m : Nat} {i : Ins} {y : Nat} (h : y ∈ toF m i) : y < m := by
  unfold toF at h
  split at h
  · rw [List.mem_singleton] at h
    omega
  · cases h
theorem toFs_len (m : Nat) (code : List Ins) : (code.flatMap (toF m)).length ≤ code.length := by
  induction code with
  | nil => exact Nat.le_refl _
  | cons i code ih =>
    rw [List.flatMap_cons, List.length_append, List.length_cons]
    have := toF_len m i
    omega
theorem cl_lt {fs : List Fn} {k y : Nat} (h : y ∈ clN fs k) : y < fs.length := by
  unfold clN at h
  split at h
  · rw [mem_srt, List.mem_flatMap] at h
    obtain ⟨i, _, hi⟩ := h
    exact toF_lt hi
  · cases h
theorem addN_len8 (l : List Nat) (x : Nat) : (addN l x).length ≤ l.length + 1 := by
  unfold addN
  split
  · omega
  · have h := congrArg List.length (List.takeWhile_append_dropWhile (p := fun y => decide (y < x)) (l := l))
    simp only [List.length_append, List.length_cons] at h ⊢
    omega
theorem fold_len8 (l acc : List Nat) : (l.foldl addN acc).length ≤ acc.length + l.length := by
  induction l generalizing acc with
  | nil => exact Nat.le_refl _
  | cons x l ih =>
    rw [List.foldl_cons]
    have h1 := ih (addN acc x)
    have h2 := addN_len8 acc x
    simp only [List.length_cons]
    omega
theorem srt_len (l : List Nat) : (srtN l).length ≤ l.length := by
  have := fold_len8 l []
  simpa [srtN] using this
theorem take_on (m : Nat) (code : List Ins) (j : Nat) (hj : j < code.length) : (code.take (j + 1)).flatMap (toF m) = (code.take j).flatMap (toF m) ++ toF m code[j] := by
  have e : code.take (j + 1) = code.take j ++ [code[j]] := by rw [List.take_add_one, List.getElem?_eq_getElem hj]; rfl
  rw [e, List.flatMap_append, List.flatMap_cons, List.flatMap_nil, List.append_nil]
theorem took_len (m : Nat) (code : List Ins) (j : Nat) : ((code.take j).flatMap (toF m)).length ≤ j := by
  have h1 := toFs_len m (code.take j)
  rw [List.length_take] at h1
  omega
theorem srt_on (l : List Nat) (x : Nat) : srtN (l ++ [x]) = addN (srtN l) x := by
  unfold srtN
  rw [List.foldl_append]
  rfl
set_option maxRecDepth 10000 in
set_option maxHeartbeats 4000000 in
theorem calls_any {w : World} {A : Option Addr} {c : Nat} {fs : List Fn} (hT : Tab w) (hf : FnsOk w w.heap.size A fs) (hl : ∀ f ∈ fs, f.code.length ≤ 64) (fi : Int) :
    Calls Tryd.prog 22 #[.agg #[.slice A fs.length c], .int .i64 fi] w (RowOut w (clZ fs fi)) := by
  obtain ⟨W, HW⟩ : ∃ W, Hid (W = w.alloc (.cells #[.slice A fs.length c] 24)) := ⟨_, Lib.hid rfl⟩
  obtain ⟨pb, HPB⟩ : ∃ q, Hid (q = w.heap.size) := ⟨_, Lib.hid rfl⟩
  have hbw : Below w.heap.size w W := by rw [HW.out]; exact (Below.refl _ w).alloc (Nat.le_refl _) _
  have HB := Lib.hid hbw
  have HP := Lib.hid (show Blk W pb 24 #[.slice A fs.length c] by rw [HW.out, HPB.out]; exact Blk.new w _ _)
  have HF := Lib.hid (hf.step hbw)
  have HT := Lib.hid (hT.step hbw)
  obtain ⟨n, HN⟩ : ∃ n, Hid (n = fs.length) := ⟨_, Lib.hid rfl⟩
  have HZ := Lib.hid (show ¬ (0 ≤ fi ∧ fi < n) → clZ fs fi = [] from fun h => by
    unfold clZ
    split
    · unfold clN
      rw [dif_neg (by have := HN.out; omega)]
    · rfl)
  have HCL := Lib.hid (fun (k : Nat) (hk : k < fs.length) => (show clZ fs (k : Int) = srtN (fs[k].code.flatMap (toF n)) by
    rw [clZ_nat]
    unfold clN
    rw [dif_pos hk, ← HN.out]))
  have HL := Lib.hid (fun (k : Nat) (hk : k < fs.length) => hl fs[k] (List.getElem_mem _))
  rw [← HN.out] at HW HP ⊢
  have p0 : W.cell? ⟨pb, 0, none⟩ = some (.slice A n c) := (HP.out.cell 0).trans rfl
  have hw := HW.out
  have hpb := HPB.out
  clear hf hT hbw hl
  by_cases hin : 0 ≤ fi ∧ fi < n
  · obtain ⟨k, rfl⟩ : ∃ k : Nat, fi = (k : Int) := ⟨fi.toNat, by omega⟩
    have hkn : k < n := by omega
    have hkf : k < fs.length := by rw [← HN.out]; exact hkn
    have HRES := Lib.hid (HCL.out k hkf)
    have hle := HL.out k hkf
    obtain ⟨b, off, a, eA, hbb, c0, c1, hfn⟩ := HF.out.at_ k hkf
    subst eA
    obtain ⟨C, fn, fc, S, sm, sd⟩ := a
    simp only at c0 c1
    obtain ⟨f, HFE⟩ : ∃ f, Hid (f = fs[k]) := ⟨_, Lib.hid rfl⟩
    rw [← HFE.out] at hfn HRES hle
    have HFN := Lib.hid hfn
    have HFL := Lib.hid (show fn = f.code.length from hfn.1)
    have hfl : fn ≤ 64 := by rw [HFL.out]; exact hle
    have C0 := Lib.hid (fun (V : World) (h : Below W.heap.size W V) => (h.cell (p := ⟨b, off + k * 2, none⟩) hbb).trans c0)
    have P0 := Lib.hid (fun (V : World) (h : Below W.heap.size W V) => (show V.cell? ⟨pb, 0, none⟩ = some (.slice (some ⟨b, off, none⟩) n c) from ((HP.out.below h HP.out.lt).cell 0).trans rfl))
    have hk0 : decide ((k : Int) < 0) = false := decide_eq_false (by omega)
    have hk1 : decide (n ≤ k) = false := decide_eq_false (by omega)
    clear hfn hbb c1 HCL hle hin
    obtain ⟨i0, hi, hz0, hz1, hz2⟩ := info_parts Tryd.infoI3
    have HI := Lib.hid hi
    have HZ0 := Lib.hid hz0
    have HZ1 := Lib.hid hz1
    have HZ2 := Lib.hid hz2
    clear hi hz0 hz1 hz2
    go_enter Tryd.func22, Tryd.ntmps22
    go_upto_region 1 with (fail)
    rw [← hw, ← hpb]
    clear hw hpb
    go_upto_region 4 with (fail)
    clear p0 c0
    go_loopw [4, 23] (fun v4 vi wr => ∃ (j nl cc : Nat) (A' : Option Addr) (l : List Nat), j ≤ fn ∧ vi = .int .i64 j ∧ v4 = .slice A' nl cc ∧ Hid (l = (f.code.take j).flatMap (toF n)) ∧ nl ≤ j ∧ Hid (Own wr W.heap.size 3 1 A' nl cc (ints (upI l))) ∧ Hid (Below W.heap.size W wr)) (fun _ vi _ => fn - (intOf vi).toNat)
    case atStart => exact ⟨0, 0, 0, none, [], by omega, rfl, rfl, Lib.hid rfl, Nat.le_refl _, Lib.hid (Own.nil _ _ _ _), Lib.hid (.refl _ _)⟩
    case round =>
      obtain ⟨j, nl, cc, A', l, hj, rfl, rfl, K1, hnl, K2, K3⟩ := hrel
      have p0 := P0.out wr K3.out
      have c0 := C0.out wr K3.out
      by_cases hlt : j < fn
      · have hjc : j < f.code.length := by rw [← HFL.out]; exact hlt
        obtain ⟨cb, coff, hC, hcl, v0, v1, v2, v3, v4⟩ := (HFN.out.below K3.out).ins5 j hjc
        obtain ⟨i, HIE⟩ : ∃ i, Hid (i = f.code[j]) := ⟨_, Lib.hid rfl⟩
        rw [← HIE.out] at v0 v1 v2 v3 v4
        have HON := Lib.hid (show (f.code.take (j + 1)).flatMap (toF n) = l ++ toF n i by rw [take_on n f.code j hjc, K1.out, HIE.out])
        have HLEN := Lib.hid (show l.length ≤ 64 by rw [K1.out]; have := took_len n f.code j; omega)
        have hC' : C = some ⟨cb, coff, none⟩ := hC
        subst hC'
        obtain ⟨op, ra, rb, rc, x⟩ := i
        simp only at v0 v1 v2 v3 v4
        obtain ⟨V, HV⟩ : ∃ V, Hid (V = wr.alloc (.cells #[.int .i64 op, .int .i64 ra, .int .i64 rb, .int .i64 rc, .int .i64 x] 46)) := ⟨_, Lib.hid rfl⟩
        obtain ⟨gi, HGI⟩ : ∃ q, Hid (q = wr.heap.size) := ⟨_, Lib.hid rfl⟩
        have HBV := Lib.hid (show Below wr.heap.size wr V by rw [HV.out]; exact (Below.refl _ _).alloc (Nat.le_refl _) _)
        have HI2 := Lib.hid (show Blk V gi 46 #[.int .i64 op, .int .i64 ra, .int .i64 rb, .int .i64 rc, .int .i64 x] by rw [HV.out, HGI.out]; exact Blk.new wr _ _)
        have HWV := Lib.hid (K3.out.trans (HBV.out.mono K3.out.size))
        have I0 := Lib.hid (show ∀ U, Below V.heap.size V U → U.cell? ⟨gi, 0, none⟩ = some (.int .i64 op) from fun U h => ((HI2.out.below h HI2.out.lt).cell 0).trans rfl)
        have I4 := Lib.hid (show ∀ U, Below V.heap.size V U → U.cell? ⟨gi, 4, none⟩ = some (.int .i64 x) from fun U h => ((HI2.out.below h HI2.out.lt).cell 4).trans rfl)
        obtain ⟨T, HTE⟩ : ∃ x, Hid (x = opTarget op) := ⟨_, Lib.hid rfl⟩
        have CT := Lib.hid (isaTarget_any op V (HT.out.step HWV.out))
        rw [← HTE.out] at CT
        have HTO := Lib.hid (show toF n ⟨op, ra, rb, rc, x⟩ = if T = 2 ∧ 0 ≤ x ∧ x < n then [x.toNat] else [] by rw [HTE.out]; rfl)
        have i0' := I0.out V (.refl _ _)
        have i4' := I4.out V (.refl _ _)
        have p0' := P0.out V HWV.out
        have hv := HV.out
        have hgi := HGI.out
        clear hC hcl HIE
        by_cases h1 : T = 2
        · have hT1 : (T == 2) = true := by simpa using h1
          by_cases h2 : 0 ≤ x
          · have hx0 : decide (0 ≤ x) = true := decide_eq_true h2
            by_cases h3 : x < (n : Int)
            · obtain ⟨y, rfl⟩ : ∃ y : Nat, x = (y : Int) := ⟨x.toNat, by omega⟩
              have hx1 : decide (y < n) = true := decide_eq_true (by omega)
              have HE := Lib.hid (show (f.code.take (j + 1)).flatMap (toF n) = l ++ [y] by rw [HON.out, HTO.out, if_pos ⟨h1, h2, h3⟩]; rfl)
              clear h1 h2 h3 HON HTO
              go_upto_region 6 with (fail)
              rw [← hv, ← hgi]
              clear hv hgi p0 c0 v0 v1 v2 v3 v4
              go_wp2_with (first | (go_at_call 31; refine CT.out.mono ?_; rintro e V1 ⟨rfl, hb1⟩; have HV1 := Lib.hid hb1; have i0c := I0.out V1 hb1; have i4c := I4.out V1 hb1; have HW1 := Lib.hid (HWV.out.trans (hb1.mono HWV.out.size)); have p0c := P0.out V1 HW1.out; clear hb1) | (at_builtin; go_must (refine wpList_append_1 _ rfl _ _ 35 rfl W.heap.size 3 i0 _ 1 8 Tryd.underlying35 HI.out HZ0.out HZ1.out HZ2.out rfl (by decide) _ _ _ _ rfl ((own_low K2.out (HBV.out.trans (HV1.out.mono HBV.out.size))).alloc _) ⟨V1.heap.size, 0, none⟩ 1 [.int .i64 (y : Int)] rfl rfl (cell_one_new _ _ _) (by simp [Value.oneCell']) (by unfold maxLen; omega) (by omega) (by rw [World.size_alloc]; have h1 := HW1.out.size; omega) ?_); intro A2 c2 V2 hown hgrow _; have HO2 := Lib.hid hown; have HV2 := Lib.hid (below_append HW1.out (own_low K2.out (HBV.out.trans (HV1.out.mono HBV.out.size))) (Nat.le_refl _) HW1.out.size hgrow); clear hown hgrow))
              exact ⟨⟨j + 1, nl + 1, c2, A2, l ++ [y], by omega, by go_num, rfl, Lib.hid (HE.out.symm), by omega, Lib.hid (by have h := HO2.out; simpa [ints, upI] using h), HV2⟩, by simp [intOf]; omega⟩
            · have hx1 : decide (x < (n : Int)) = false := decide_eq_false h3
              have HE := Lib.hid (show (f.code.take (j + 1)).flatMap (toF n) = l by rw [HON.out, HTO.out, if_neg (fun h => h3 h.2.2), List.append_nil])
              clear h1 h2 h3 HON HTO
              go_upto_region 6 with (fail)
              rw [← hv, ← hgi]
              clear hv hgi p0 c0 v0 v1 v2 v3 v4
              go_wp2_with (go_at_call 31; refine CT.out.mono ?_; rintro e V1 ⟨rfl, hb1⟩; have HV1 := Lib.hid hb1; have i0c := I0.out V1 hb1; have i4c := I4.out V1 hb1; have HW1 := Lib.hid (HWV.out.trans (hb1.mono HWV.out.size)); have p0c := P0.out V1 HW1.out; clear hb1)
              exact ⟨⟨j + 1, nl, cc, A', l, by omega, by go_num, rfl, Lib.hid (HE.out.symm), by omega, Lib.hid (own_low K2.out (HBV.out.trans (HV1.out.mono HBV.out.size))), HW1⟩, by simp [intOf]; omega⟩
          · have hx0 : decide (0 ≤ x) = false := decide_eq_false h2
            have HE := Lib.hid (show (f.code.take (j + 1)).flatMap (toF n) = l by rw [HON.out, HTO.out, if_neg (fun h => h2 h.2.1), List.append_nil])
            clear h1 h2 HON HTO
            go_upto_region 6 with (fail)
            rw [← hv, ← hgi]
            clear hv hgi p0 c0 v0 v1 v2 v3 v4
            go_wp2_with (go_at_call 31; refine CT.out.mono ?_; rintro e V1 ⟨rfl, hb1⟩; have HV1 := Lib.hid hb1; have i0c := I0.out V1 hb1; have i4c := I4.out V1 hb1; have HW1 := Lib.hid (HWV.out.trans (hb1.mono HWV.out.size)); have p0c := P0.out V1 HW1.out; clear hb1)
            exact ⟨⟨j + 1, nl, cc, A', l, by omega, by go_num, rfl, Lib.hid (HE.out.symm), by omega, Lib.hid (own_low K2.out (HBV.out.trans (HV1.out.mono HBV.out.size))), HW1⟩, by simp [intOf]; omega⟩
        · have hT1 : (T == 2) = false := by simpa using h1
          have HE := Lib.hid (show (f.code.take (j + 1)).flatMap (toF n) = l by rw [HON.out, HTO.out, if_neg (fun h => h1 h.1), List.append_nil])
          clear h1 HON HTO
          go_upto_region 6 with (fail)
          rw [← hv, ← hgi]
          clear hv hgi p0 c0 v0 v1 v2 v3 v4
          go_wp2_with (go_at_call 31; refine CT.out.mono ?_; rintro e V1 ⟨rfl, hb1⟩; have HV1 := Lib.hid hb1; have i0c := I0.out V1 hb1; have i4c := I4.out V1 hb1; have HW1 := Lib.hid (HWV.out.trans (hb1.mono HWV.out.size)); have p0c := P0.out V1 HW1.out; clear hb1)
          exact ⟨⟨j + 1, nl, cc, A', l, by omega, by go_num, rfl, Lib.hid (HE.out.symm), by omega, Lib.hid (own_low K2.out (HBV.out.trans (HV1.out.mono HBV.out.size))), HW1⟩, by simp [intOf]; omega⟩
      · obtain rfl : j = fn := by omega
        have HE := Lib.hid (show clZ fs (k : Int) = srtN l by rw [HRES.out, K1.out, HFL.out, List.take_length])
        have HZL := Lib.hid (show nl ≤ 65536 by omega)
        go_wp2_with (first | (go_at_call 33; refine (sort_any (l := upI l) K2.out K3.out.size HZL.out).mono ?_; rintro e V5 ⟨rfl, ho5, hb5⟩; have HO5 := Lib.hid ho5; have HV5 := Lib.hid (K3.out.trans hb5); clear ho5 hb5) | (go_at_call 34; refine (compact_any HO5.out).mono ?_; rintro e V6 ⟨rfl, ho6, hb6⟩; have HO6 := Lib.hid ho6; have HV6 := Lib.hid (HV5.out.trans hb6); clear ho6 hb6))
        go_ret
        rw [HE.out]
        exact RowOut.of (own_base HO6.out HB.out.size) rfl (HB.out.trans (HV6.out.mono HB.out.size))
  · rw [HZ.out hin]
    have HZZ := Lib.hid (Own.nil W w.heap.size 3 1)
    by_cases h0 : fi < 0
    · clear hin
      go_enter Tryd.func22, Tryd.ntmps22
      go_wp2_with fail
      go_ret
      rw [← hw]
      exact ⟨none, 0, rfl, HZZ.out, HB.out⟩
    · have h1 : (n : Int) ≤ fi := by omega
      clear hin
      go_enter Tryd.func22, Tryd.ntmps22
      go_wp2_with fail
      go_ret
      rw [← hw]
      exact ⟨none, 0, rfl, HZZ.out, HB.out⟩
set_option maxRecDepth 10000 in
set_option maxHeartbeats 4000000 in
theorem rcalls_any {w : World} {A : Option Addr} {c : Nat} {fs : List Fn} (hf : FnsOk w w.heap.size A fs) (hl : ∀ f ∈ fs, f.code.length ≤ 64) (fi : Int) :
    Calls Tryd.prog 23 #[.agg #[.slice A fs.length c], .int .i64 fi] w (RowOut w (clZ fs fi)) := by
  obtain ⟨W, HW⟩ : ∃ W, Hid (W = w.alloc (.cells #[.slice A fs.length c] 24)) := ⟨_, Lib.hid rfl⟩
  obtain ⟨pb, HPB⟩ : ∃ q, Hid (q = w.heap.size) := ⟨_, Lib.hid rfl⟩
  have hbw : Below w.heap.size w W := by rw [HW.out]; exact (Below.refl _ w).alloc (Nat.le_refl _) _
  have HB := Lib.hid hbw
  have HP := Lib.hid (show Blk W pb 24 #[.slice A fs.length c] by rw [HW.out, HPB.out]; exact Blk.new w _ _)
  have HF := Lib.hid (hf.step hbw)
  obtain ⟨n, HN⟩ : ∃ n, Hid (n = fs.length) := ⟨_, Lib.hid rfl⟩
  have HZ := Lib.hid (show ¬ (0 ≤ fi ∧ fi < n) → clZ fs fi = [] from fun h => by
    unfold clZ
    split
    · unfold clN
      rw [dif_neg (by have := HN.out; omega)]
    · rfl)
  have HCL := Lib.hid (fun (k : Nat) (hk : k < fs.length) => (show clZ fs (k : Int) = srtN (fs[k].code.flatMap (toF n)) by
    rw [clZ_nat]
    unfold clN
    rw [dif_pos hk, ← HN.out]))
  have HL := Lib.hid (fun (k : Nat) (hk : k < fs.length) => hl fs[k] (List.getElem_mem _))
  rw [← HN.out] at HW HP ⊢
  have p0 : W.cell? ⟨pb, 0, none⟩ = some (.slice A n c) := (HP.out.cell 0).trans rfl
  have hw := HW.out
  have hpb := HPB.out
  clear hf hbw hl
  by_cases hin : 0 ≤ fi ∧ fi < n
  · obtain ⟨k, rfl⟩ : ∃ k : Nat, fi = (k : Int) := ⟨fi.toNat, by omega⟩
    have hkn : k < n := by omega
    have hkf : k < fs.length := by rw [← HN.out]; exact hkn
    have HRES := Lib.hid (HCL.out k hkf)
    have hle := HL.out k hkf
    obtain ⟨b, off, a, eA, hbb, c0, c1, hfn⟩ := HF.out.at_ k hkf
    subst eA
    obtain ⟨C, fn, fc, S, sm, sd⟩ := a
    simp only at c0 c1
    obtain ⟨f, HFE⟩ : ∃ f, Hid (f = fs[k]) := ⟨_, Lib.hid rfl⟩
    rw [← HFE.out] at hfn HRES hle
    have HFN := Lib.hid hfn
    have HFL := Lib.hid (show fn = f.code.length from hfn.1)
    have hfl : fn ≤ 64 := by rw [HFL.out]; exact hle
    have C0 := Lib.hid (fun (V : World) (h : Below W.heap.size W V) => (h.cell (p := ⟨b, off + k * 2, none⟩) hbb).trans c0)
    have P0 := Lib.hid (fun (V : World) (h : Below W.heap.size W V) => (show V.cell? ⟨pb, 0, none⟩ = some (.slice (some ⟨b, off, none⟩) n c) from ((HP.out.below h HP.out.lt).cell 0).trans rfl))
    have hk0 : decide ((k : Int) < 0) = false := decide_eq_false (by omega)
    have hk1 : decide (n ≤ k) = false := decide_eq_false (by omega)
    clear hfn hbb c1 HCL hle hin
    go_enter Tryd.func23, Tryd.ntmps23
    go_upto_region 1 with (fail)
    rw [← hw, ← hpb]
    clear hw hpb
    go_upto_region 5 with (fail)
    clear p0 c0
    go_loopw [5, 6] (fun v4 vi wr => ∃ (j nl cc : Nat) (A' : Option Addr) (l : List Nat), j ≤ fn ∧ vi = .int .i64 j ∧ v4 = .slice A' nl cc ∧ Hid (l = (f.code.take j).flatMap (toF n)) ∧ nl ≤ j ∧ Hid (NewRow W wr A' nl cc (srtN l)) ∧ Hid (Below W.heap.size W wr)) (fun _ vi _ => fn - (intOf vi).toNat)
    case atStart => exact ⟨0, 0, 0, none, [], by omega, rfl, rfl, Lib.hid rfl, Nat.le_refl _, Lib.hid (NewRow.nil _ _), Lib.hid (.refl _ _)⟩
    case round =>
      obtain ⟨j, nl, cc, A', l, hj, rfl, rfl, K1, hnl, K2, K3⟩ := hrel
      have p0 := P0.out wr K3.out
      have c0 := C0.out wr K3.out
      by_cases hlt : j < fn
      · have hjc : j < f.code.length := by rw [← HFL.out]; exact hlt
        obtain ⟨cb, coff, hC, hcl, v0, v1, v2, v3, v4⟩ := (HFN.out.below K3.out).ins5 j hjc
        obtain ⟨i, HIE⟩ : ∃ i, Hid (i = f.code[j]) := ⟨_, Lib.hid rfl⟩
        rw [← HIE.out] at v0 v1 v2 v3 v4
        have HON := Lib.hid (show (f.code.take (j + 1)).flatMap (toF n) = l ++ toF n i by rw [take_on n f.code j hjc, K1.out, HIE.out])
        have HLEN := Lib.hid (show l.length ≤ 64 by rw [K1.out]; have := took_len n f.code j; omega)
        have hC' : C = some ⟨cb, coff, none⟩ := hC
        subst hC'
        obtain ⟨op, ra, rb, rc, x⟩ := i
        simp only at v0 v1 v2 v3 v4
        obtain ⟨V, HV⟩ : ∃ V, Hid (V = wr.alloc (.cells #[.int .i64 op, .int .i64 ra, .int .i64 rb, .int .i64 rc, .int .i64 x] 46)) := ⟨_, Lib.hid rfl⟩
        obtain ⟨gi, HGI⟩ : ∃ q, Hid (q = wr.heap.size) := ⟨_, Lib.hid rfl⟩
        have HBV := Lib.hid (show Below wr.heap.size wr V by rw [HV.out]; exact (Below.refl _ _).alloc (Nat.le_refl _) _)
        have HI2 := Lib.hid (show Blk V gi 46 #[.int .i64 op, .int .i64 ra, .int .i64 rb, .int .i64 rc, .int .i64 x] by rw [HV.out, HGI.out]; exact Blk.new wr _ _)
        have HWV := Lib.hid (K3.out.trans (HBV.out.mono K3.out.size))
        have I0 := Lib.hid (show ∀ U, Below V.heap.size V U → U.cell? ⟨gi, 0, none⟩ = some (.int .i64 op) from fun U h => ((HI2.out.below h HI2.out.lt).cell 0).trans rfl)
        have I4 := Lib.hid (show ∀ U, Below V.heap.size V U → U.cell? ⟨gi, 4, none⟩ = some (.int .i64 x) from fun U h => ((HI2.out.below h HI2.out.lt).cell 4).trans rfl)
        obtain ⟨T, HTE⟩ : ∃ x, Hid (x = opTarget op) := ⟨_, Lib.hid rfl⟩
        have CT := Lib.hid (rtarget_any op V)
        rw [← HTE.out] at CT
        have HTO := Lib.hid (show toF n ⟨op, ra, rb, rc, x⟩ = if T = 2 ∧ 0 ≤ x ∧ x < n then [x.toNat] else [] by rw [HTE.out]; rfl)
        have i0' := I0.out V (.refl _ _)
        have i4' := I4.out V (.refl _ _)
        have p0' := P0.out V HWV.out
        have hv := HV.out
        have hgi := HGI.out
        clear hC hcl HIE
        by_cases h1 : T = 2
        · have hT1 : (T == 2) = true := by simpa using h1
          by_cases h2 : 0 ≤ x
          · have hx0 : decide (0 ≤ x) = true := decide_eq_true h2
            by_cases h3 : x < (n : Int)
            · obtain ⟨y, rfl⟩ : ∃ y : Nat, x = (y : Int) := ⟨x.toNat, by omega⟩
              have hx1 : decide (y < n) = true := decide_eq_true (by omega)
              have HE := Lib.hid (show (f.code.take (j + 1)).flatMap (toF n) = l ++ [y] by rw [HON.out, HTO.out, if_pos ⟨h1, h2, h3⟩]; rfl)
              have HNL := Lib.hid (show (addN (srtN l) y).length ≤ j + 1 by rw [← srt_on, ← HE.out]; exact Nat.le_trans (srt_len _) (took_len n f.code (j + 1)))
              clear h1 h2 h3 HON HTO
              go_upto_region 8 with (fail)
              rw [← hv, ← hgi]
              have HADD := Lib.hid (add_any (w := V) (w0 := W) (srtN l) y (K2.out.keep HBV.out) (by have h1 := srt_len l; have h2 := HLEN.out; omega) HWV.out.size)
              clear hv hgi p0 c0 v0 v1 v2 v3 v4
              go_wp2_with (first | (go_at_call 37; refine CT.out.mono ?_; rintro e V1 ⟨rfl, rfl⟩) | (go_at_call 35; refine HADD.out.mono ?_; rintro e V2 ⟨A2, c2, rfl, ho2, hb2⟩; have HO2 := Lib.hid ho2; have HV2 := Lib.hid (HWV.out.trans (hb2.mono HWV.out.size)); clear ho2 hb2))
              exact ⟨⟨j + 1, _, c2, A2, l ++ [y], by omega, by go_num, rfl, Lib.hid (HE.out.symm), HNL.out, Lib.hid (by rw [srt_on]; exact HO2.out), HV2⟩, by simp [intOf]; omega⟩
            · have hx1 : decide (x < (n : Int)) = false := decide_eq_false h3
              have HE := Lib.hid (show (f.code.take (j + 1)).flatMap (toF n) = l by rw [HON.out, HTO.out, if_neg (fun h => h3 h.2.2), List.append_nil])
              clear h1 h2 h3 HON HTO
              go_upto_region 8 with (fail)
              rw [← hv, ← hgi]
              clear hv hgi p0 c0 v0 v1 v2 v3 v4
              go_wp2_with (go_at_call 37; refine CT.out.mono ?_; rintro e V1 ⟨rfl, rfl⟩)
              exact ⟨⟨j + 1, nl, cc, A', l, by omega, by go_num, rfl, Lib.hid (HE.out.symm), by omega, Lib.hid (K2.out.keep HBV.out), HWV⟩, by simp [intOf]; omega⟩
          · have hx0 : decide (0 ≤ x) = false := decide_eq_false h2
            have HE := Lib.hid (show (f.code.take (j + 1)).flatMap (toF n) = l by rw [HON.out, HTO.out, if_neg (fun h => h2 h.2.1), List.append_nil])
            clear h1 h2 HON HTO
            go_upto_region 8 with (fail)
            rw [← hv, ← hgi]
            clear hv hgi p0 c0 v0 v1 v2 v3 v4
            go_wp2_with (go_at_call 37; refine CT.out.mono ?_; rintro e V1 ⟨rfl, rfl⟩)
            exact ⟨⟨j + 1, nl, cc, A', l, by omega, by go_num, rfl, Lib.hid (HE.out.symm), by omega, Lib.hid (K2.out.keep HBV.out), HWV⟩, by simp [intOf]; omega⟩
        · have hT1 : (T == 2) = false := by simpa using h1
          have HE := Lib.hid (show (f.code.take (j + 1)).flatMap (toF n) = l by rw [HON.out, HTO.out, if_neg (fun h => h1 h.1), List.append_nil])
          clear h1 HON HTO
          go_upto_region 8 with (fail)
          rw [← hv, ← hgi]
          clear hv hgi p0 c0 v0 v1 v2 v3 v4
          go_wp2_with (go_at_call 37; refine CT.out.mono ?_; rintro e V1 ⟨rfl, rfl⟩)
          exact ⟨⟨j + 1, nl, cc, A', l, by omega, by go_num, rfl, Lib.hid (HE.out.symm), by omega, Lib.hid (K2.out.keep HBV.out), HWV⟩, by simp [intOf]; omega⟩
      · obtain rfl : j = fn := by omega
        have HE := Lib.hid (show clZ fs (k : Int) = srtN l by rw [HRES.out, K1.out, HFL.out, List.take_length])
        go_wp2_with fail
        go_ret
        rw [HE.out]
        exact K2.out.out HB.out K3.out
  · rw [HZ.out hin]
    have HZZ := Lib.hid (Own.nil W w.heap.size 3 1)
    by_cases h0 : fi < 0
    · clear hin
      go_enter Tryd.func23, Tryd.ntmps23
      go_wp2_with fail
      go_ret
      rw [← hw]
      exact ⟨none, 0, rfl, HZZ.out, HB.out⟩
    · have h1 : (n : Int) ≤ fi := by omega
      clear hin
      go_enter Tryd.func23, Tryd.ntmps23
      go_wp2_with fail
      go_ret
      rw [← hw]
      exact ⟨none, 0, rfl, HZZ.out, HB.out⟩
end Go.Proofs.YtdpacdmaadodiaaDoor

/-
  Chapter 8: the law FlowRows returns true, whatever is handed in. Condition: the table isa.rows.
-/
import Derived.Test.YtdpacdmaadodiaaDoorRfl8
import Derived.Test.YtdpacdmaadodiaaDoorRnx8
import Derived.Test.YtdpacdmaadodiaaDoorAlv8
namespace Go.Proofs.YtdpacdmaadodiaaDoor
open Go.RowKit
theorem mod_any (x : Int) (n : Nat) (h0 : 0 < n) (hn : n ≤ 1000) (w : World) : Calls Tryd.prog 17 #[.int .i64 x, .int .i64 n] w fun e w' => ∃ j : Nat, j < n ∧ e = .returned (.int .i64 j) ∧ w = w' := by
  obtain ⟨r, hr⟩ : ∃ r, x.tmod n = r := ⟨_, rfl⟩
  have b1 : r < n := by rw [← hr]; exact Int.tmod_lt_of_pos x (by omega)
  have b2 : -(n : Int) < r := by rw [← hr]; exact Int.lt_tmod_of_pos x (by omega)
  have hz : ((n : Int) == 0) = false := by simp; omega
  by_cases hs : r < 0
  · go_enter Tryd.func17, Tryd.ntmps17
    go_wp2
    go_ret
    exact ⟨(r + n).toNat, by omega, by rw [show (((r + n).toNat : Nat) : Int) = r + n by omega]; rfl, rfl⟩
  · go_enter Tryd.func17, Tryd.ntmps17
    go_wp2
    go_ret
    exact ⟨r.toNat, by omega, by rw [show ((r.toNat : Nat) : Int) = r by omega]; rfl, rfl⟩
/-- Where whoever goes stands. -/
def At8 (n : Nat) (nx : Nat → List Nat) (op : Nat → Bool) (gap : Nat × Bool) (pc : Int) (s : Nat) : Prop :=
  (gap.2 = true → s ≤ gap.1) ∧ (s = 0 ∨ ∃ a x : Nat, pc = (x : Int) ∧ a < n ∧ Goes nx op a s x)
theorem At8.start (n : Nat) (nx : Nat → List Nat) (op : Nat → Bool) (gap : Nat × Bool) (pc : Int) : At8 n nx op gap pc 0 := ⟨fun _ => Nat.zero_le _, .inl rfl⟩
theorem At8.step {n : Nat} {nx : Nat → List Nat} {op : Nat → Bool} {pc : Int} {s : Nat} (h : At8 n nx op (gapG n nx op) pc s) (h0 : 0 ≤ pc) (h1 : pc.toNat < n) (h2 : op pc.toNat = true) :
    ((gapG n nx op).2 = true → s + 1 ≤ (gapG n nx op).1) ∧ ∀ y ∈ nx pc.toNat, At8 n nx op (gapG n nx op) (y : Int) (s + 1) := by
  have hg : ∃ a, a < n ∧ Goes nx op a s pc.toNat := by
    rcases h.2 with rfl | ⟨a, x, e, ha, hx⟩
    · exact ⟨pc.toNat, h1, .here⟩
    · subst e
      exact ⟨a, ha, by simpa using hx⟩
  obtain ⟨a, ha, hx⟩ := hg
  have hb : (gapG n nx op).2 = true → s + 1 ≤ (gapG n nx op).1 := fun hi => hx.few ha h2 (Nat.le_trans (h.1 hi) (gap_lt hi)) hi
  exact ⟨hb, fun y hy => ⟨hb, .inr ⟨a, y, rfl, ha, .on hx h2 hy⟩⟩⟩
theorem IsRc.closed {n : Nat} {nx : Nat → List Nat} {vs : List Bool} (h : IsRc n nx vs) {x y : Nat} (hx : x < n) (hy : y < n) (hxy : y ∈ nx x) (hv : vs.getD x false = true) : vs.getD y false = true :=
  (h.2 y hy).2 (.step ((h.2 x hx).1 hv) hxy)
theorem addN_len (l : List Nat) (x : Nat) : (addN l x).length ≤ l.length + 1 := by
  unfold addN
  split
  · omega
  · have h := congrArg List.length (List.takeWhile_append_dropWhile (p := fun y => decide (y < x)) (l := l))
    simp only [List.length_append, List.length_cons] at h ⊢
    omega
theorem fold_len (l acc : List Nat) : (l.foldl addN acc).length ≤ acc.length + l.length := by
  induction l generalizing acc with
  | nil => exact Nat.le_refl _
  | cons x l ih =>
    rw [List.foldl_cons]
    have h1 := ih (addN acc x)
    have h2 := addN_len acc x
    simp only [List.length_cons]
    omega
theorem nx_few (code : List Ins) (x : Nat) : (nxN code x).length ≤ 2 := by
  unfold nxN
  split
  · have h1 := fold_len (tgtN code.length code[x] ++ onN code.length x code[x]) []
    have h2 : (tgtN code.length code[x]).length ≤ 1 := by unfold tgtN; split <;> simp
    have h3 : (onN code.length x code[x]).length ≤ 1 := by unfold onN; split <;> simp
    unfold srtN
    simp only [List.length_append, List.length_nil] at h1
    omega
  · exact Nat.zero_le _
set_option maxRecDepth 10000 in
set_option maxHeartbeats 8000000 in
theorem rows08 (A PA : Option Addr) (c pcap : Nat) (fs : List Fn) (picks : List Int) (fi pc0 : Int) (w : World) (hT : Tab w) (hm : fs.length ≤ maxLen) (hf : FnsOk w w.heap.size A fs) (hpm : picks.length ≤ maxLen) (hpr : Row w w.heap.size PA (ints picks)) :
    Calls Tryd.prog 5 #[.agg #[.slice A fs.length c], .int .i64 fi, .int .i64 pc0, .slice PA picks.length pcap] w fun e w' => e = .returned (.bool true) ∧ Below w.heap.size w w' := by
  obtain ⟨W, HW⟩ : ∃ W, Hid (W = w.alloc (.cells #[.slice A fs.length c] 24)) := ⟨_, Lib.hid rfl⟩
  have HB := Lib.hid (show Below w.heap.size w W by rw [HW.out]; exact (Below.refl _ _).alloc (Nat.le_refl _) _)
  obtain ⟨pb, HPB⟩ : ∃ q, Hid (q = w.heap.size) := ⟨_, Lib.hid rfl⟩
  have HP := Lib.hid (show Blk W pb 24 #[.slice A fs.length c] by rw [HW.out, HPB.out]; exact Blk.new w _ _)
  have HC := Lib.hid (light8_any A c fs W hm (hf.step HB.out))
  have HF := Lib.hid (hf.step HB.out)
  have HT := Lib.hid (hT.step HB.out)
  have HPR := Lib.hid ((hpr.below HB.out).more HB.out.size)
  obtain ⟨lp, HLP⟩ : ∃ b, Hid (b = light8 fs) := ⟨_, Lib.hid rfl⟩
  rw [← HLP.out] at HC
  have HAL := Lib.hid (fun (V : World) (h : Below W.heap.size W V) => alive08 V (HT.out.step h))
  obtain ⟨n, HN⟩ : ∃ n, Hid (n = fs.length) := ⟨_, Lib.hid rfl⟩
  obtain ⟨np, HNP⟩ : ∃ n, Hid (n = picks.length) := ⟨_, Lib.hid rfl⟩
  rw [← HN.out] at HC HP HW ⊢
  rw [← HNP.out] at hpm ⊢
  unfold maxLen at hpm
  clear hT hf hpr hm
  have p0 : W.cell? ⟨pb, 0, none⟩ = some (.slice A n c) := HP.out.cell 0
  have hpb := HPB.out
  have BAD : ∀ (_ : lp = false ∨ 200 < np ∨ fi < 0 ∨ (n : Int) ≤ fi), Calls Tryd.prog 5 #[.agg #[.slice A n c], .int .i64 fi, .int .i64 pc0, .slice PA np pcap] w fun e w' => e = .returned (.bool true) ∧ Below w.heap.size w w' := by
    intro hbad
    have HBAD := Lib.hid hbad
    clear hbad
    cases lp with
    | false =>
      go_enter Tryd.func5, Tryd.ntmps5
      go_upto_region 1 with (fail)
      rw [← HW.out, ← hpb]
      clear hpb
      go_wp2_with (first | (go_at_call 7; refine HC.out.mono ?_; rintro e W1 ⟨rfl, hb1⟩; have HB1 := Lib.hid hb1; have p1 : W1.cell? ⟨pb, 0, none⟩ = some (.slice A n c) := (HP.out.below hb1 HP.out.lt).cell 0; clear hb1) | (go_at_call 8; refine (HAL.out _ HB1.out).mono ?_; rintro e W2 ⟨rfl, hb2⟩; have HB2 := Lib.hid hb2; clear hb2))
      go_ret
      exact ⟨rfl, HB.out.trans ((HB1.out.trans (HB2.out.mono HB1.out.size)).mono HB.out.size)⟩
    | true =>
      by_cases h1 : 200 < np
      · have h1' : decide (200 < np) = true := decide_eq_true h1
        go_enter Tryd.func5, Tryd.ntmps5
        go_upto_region 1 with (fail)
        rw [← HW.out, ← hpb]
        clear hpb
        go_wp2_with (first | (go_at_call 7; refine HC.out.mono ?_; rintro e W1 ⟨rfl, hb1⟩; have HB1 := Lib.hid hb1; have p1 : W1.cell? ⟨pb, 0, none⟩ = some (.slice A n c) := (HP.out.below hb1 HP.out.lt).cell 0; clear hb1) | (go_at_call 8; refine (HAL.out _ HB1.out).mono ?_; rintro e W2 ⟨rfl, hb2⟩; have HB2 := Lib.hid hb2; clear hb2))
        go_ret
        exact ⟨rfl, HB.out.trans ((HB1.out.trans (HB2.out.mono HB1.out.size)).mono HB.out.size)⟩
      · have h1' : decide (200 < np) = false := decide_eq_false h1
        by_cases h2 : fi < 0
        · go_enter Tryd.func5, Tryd.ntmps5
          go_upto_region 1 with (fail)
          rw [← HW.out, ← hpb]
          clear hpb
          go_wp2_with (first | (go_at_call 7; refine HC.out.mono ?_; rintro e W1 ⟨rfl, hb1⟩; have HB1 := Lib.hid hb1; have p1 : W1.cell? ⟨pb, 0, none⟩ = some (.slice A n c) := (HP.out.below hb1 HP.out.lt).cell 0; clear hb1) | (go_at_call 8; refine (HAL.out _ HB1.out).mono ?_; rintro e W2 ⟨rfl, hb2⟩; have HB2 := Lib.hid hb2; clear hb2))
          go_ret
          exact ⟨rfl, HB.out.trans ((HB1.out.trans (HB2.out.mono HB1.out.size)).mono HB.out.size)⟩
        · have h3 : (n : Int) ≤ fi := by have h := HBAD.out; simp at h; omega
          go_enter Tryd.func5, Tryd.ntmps5
          go_upto_region 1 with (fail)
          rw [← HW.out, ← hpb]
          clear hpb
          go_wp2_with (first | (go_at_call 7; refine HC.out.mono ?_; rintro e W1 ⟨rfl, hb1⟩; have HB1 := Lib.hid hb1; have p1 : W1.cell? ⟨pb, 0, none⟩ = some (.slice A n c) := (HP.out.below hb1 HP.out.lt).cell 0; clear hb1) | (go_at_call 8; refine (HAL.out _ HB1.out).mono ?_; rintro e W2 ⟨rfl, hb2⟩; have HB2 := Lib.hid hb2; clear hb2))
          go_ret
          exact ⟨rfl, HB.out.trans ((HB1.out.trans (HB2.out.mono HB1.out.size)).mono HB.out.size)⟩
  by_cases hbad : lp = false ∨ 200 < np ∨ fi < 0 ∨ (n : Int) ≤ fi
  · exact BAD hbad
  · clear BAD
    obtain rfl : lp = true := by cases lp <;> simp_all
    obtain ⟨q, rfl⟩ : ∃ q : Nat, fi = q := ⟨fi.toNat, by omega⟩
    have hq : q < n := by omega
    have h200 : np ≤ 200 := by omega
    have hqf : q < fs.length := by rw [← HN.out]; exact hq
    have HLO := Lib.hid ((light8_out HLP.out.symm).2 q hqf)
    have h1' : decide (200 < np) = false := decide_eq_false (by omega)
    have h2 : decide ((q : Int) < 0) = false := decide_eq_false (by omega)
    have h3 : decide ((n : Int) ≤ (q : Int)) = false := decide_eq_false (by omega)
    have h4 : decide (n ≤ q) = false := decide_eq_false (by omega)
    clear hbad
    go_enter Tryd.func5, Tryd.ntmps5
    go_upto_region 1 with (fail)
    rw [← HW.out, ← hpb]
    clear hpb
    go_upto_region 3 with (go_at_call 7; refine HC.out.mono ?_; rintro e W1 ⟨rfl, hb1⟩; have HB1 := Lib.hid hb1; have p1 : W1.cell? ⟨pb, 0, none⟩ = some (.slice A n c) := (HP.out.below hb1 HP.out.lt).cell 0; clear hb1)
    obtain ⟨b, off, a, eA, hbb, c0, c1, hfn⟩ := (HF.out.step HB1.out).at_ q hqf
    subst eA
    obtain ⟨C, fn, fc, S, sm, sd⟩ := a
    simp only at c0 c1
    have HFN := Lib.hid hfn
    clear hfn p0 HC
    obtain ⟨f, HFQ⟩ : ∃ f, Hid (f = fs[q]) := ⟨_, Lib.hid rfl⟩
    rw [← HFQ.out] at HFN HLO
    go_upto_region 4 with (fail)
    obtain ⟨W2, HW2⟩ : ∃ V, Hid (V = W1.alloc (.cells #[.slice C fn fc, .slice S sm sd] 30)) := ⟨_, Lib.hid rfl⟩
    obtain ⟨gb, HGB⟩ : ∃ g, Hid (g = W1.heap.size) := ⟨_, Lib.hid rfl⟩
    rw [← HW2.out, ← HGB.out]
    have HB2 := Lib.hid (show Below W1.heap.size W1 W2 by rw [HW2.out]; exact (Below.refl _ W1).alloc (Nat.le_refl _) _)
    have HQ2 := Lib.hid (show Blk W2 gb 30 #[.slice C fn fc, .slice S sm sd] by rw [HW2.out, HGB.out]; exact Blk.new W1 _ _)
    have HB12 := Lib.hid (HB1.out.trans (HB2.out.mono HB1.out.size))
    have HFN2 := Lib.hid (HFN.out.step HB2.out)
    have HFL := Lib.hid (show fn = f.code.length from HFN.out.1)
    have hfl : fn ≤ 64 := by rw [HFL.out]; exact HLO.out.1
    have HT2 := Lib.hid (HT.out.step HB12.out)
    have HG1 := Lib.hid (gap_any HT2.out HFN2.out (by omega))
    have HRE := Lib.hid (fun (V : World) (h : Below W2.heap.size W2 V) => reach_any (HT2.out.step h) (HFN2.out.step h) (show fn ≤ 70 by omega))
    obtain ⟨g1, HG1E⟩ : ∃ g, Hid (g = gapG fn (nxN f.code) (openB f.safe)) := ⟨_, Lib.hid rfl⟩
    rw [← HG1E.out] at HG1
    obtain ⟨gn, gi⟩ := g1
    unfold twoOf at HG1
    have Q0 := Lib.hid (fun (V : World) (h : Below W2.heap.size W2 V) => (show V.cell? ⟨gb, 0, none⟩ = some (.slice C fn fc) from ((HQ2.out.below h HQ2.out.lt).cell 0).trans rfl))
    have Q1 := Lib.hid (fun (V : World) (h : Below W2.heap.size W2 V) => (show V.cell? ⟨gb, 1, none⟩ = some (.slice S sm sd) from ((HQ2.out.below h HQ2.out.lt).cell 1).trans rfl))
    have q0 := Q0.out W2 (Below.refl _ _)
    have q1 := Q1.out W2 (Below.refl _ _)
    clear c0 c1 p1 hbb h2 h3 h4 hq
    go_upto_region 5 with (go_at_call 9; refine HG1.out.mono ?_; rintro e W3 ⟨rfl, hb3⟩; have HB3 := Lib.hid hb3; have q30 := Q0.out W3 hb3; have q31 := Q1.out W3 hb3; clear hb3)
    clear q0 q1
    go_upto_region 6 with (go_at_call 14; refine (HRE.out _ HB3.out).mono ?_; rintro e W4 ⟨rk, vs, rfl, hr1, hr2, hr3, hr4⟩; have HR1 := Lib.hid hr1; have HR3 := Lib.hid hr3; have HB4 := Lib.hid (HB3.out.trans (hr4.mono HB3.out.size)); have q40 := Q0.out W4 HB4.out; clear hr1 hr2 hr3 hr4)
    clear q30 q31 HRE HG1
    have HB4W := Lib.hid (HB12.out.trans (HB4.out.mono HB12.out.size))
    go_upto_region 10 with (fail)
    clear q40
    have HGO := Lib.hid (show (gn, gi) = gapG fn (nxN f.code) (openB f.safe) from HG1E.out)
    have HVL := Lib.hid (show vs.length = fn from HR3.out.1)
    go_loopw [2, 13, 14] (fun v2 v13 v14 wr => ∃ (k s : Nat) (pc : Int), k ≤ np ∧ s ≤ k ∧ v14 = .int .i64 k ∧ v13 = .int .i64 s ∧ v2 = .int .i64 pc ∧ Hid (At8 fn (nxN f.code) (openB f.safe) (gn, gi) pc s) ∧ Hid (Below W4.heap.size W4 wr)) (fun _ _ v14 _ => np - (intOf v14).toNat)
    case atStart => exact ⟨0, 0, pc0, by omega, by omega, rfl, rfl, rfl, Lib.hid (At8.start _ _ _ _ _), Lib.hid (.refl _ _)⟩
    case round =>
      obtain ⟨k, s, pc, hk, hs, rfl, rfl, rfl, K1, K2⟩ := hrel
      have HV2 := Lib.hid (HB4.out.trans (K2.out.mono HB4.out.size))
      have HVW := Lib.hid (HB4W.out.trans (K2.out.mono HB4W.out.size))
      have q0 := Q0.out wr HV2.out
      have q1 := Q1.out wr HV2.out
      by_cases hlt : k < np
      · have HRO := Lib.hid (ropen_any (HFN2.out.step HV2.out) pc)
        obtain ⟨o, HOE⟩ : ∃ o, Hid (o = (decide (0 ≤ pc) && (decide (pc.toNat < fn) && openB f.safe pc.toNat))) := ⟨_, Lib.hid rfl⟩
        rw [← HOE.out] at HRO
        cases o with
        | false =>
          go_wp2_with (first | (go_at_call 15; refine HRO.out.mono ?_; rintro e V1 ⟨rfl, hb1⟩; have HVW := Lib.hid (HVW.out.trans (hb1.mono HVW.out.size)); clear hb1) | (go_at_call 8; refine (HAL.out _ HVW.out).mono ?_; rintro e Wz ⟨rfl, hbz⟩; have HBZ := Lib.hid hbz; clear hbz))
          go_ret
          exact ⟨rfl, HB.out.trans ((HVW.out.trans (HBZ.out.mono HVW.out.size)).mono HB.out.size)⟩
        | true =>
          have ho := HOE.out.symm
          simp only [Bool.and_eq_true, decide_eq_true_eq] at ho
          obtain ⟨x, rfl⟩ : ∃ x : Nat, pc = (x : Int) := ⟨pc.toNat, by omega⟩
          have HXN := Lib.hid (show x < fn by have := ho.2.1; simpa using this)
          have HST := Lib.hid (show (gi = true → s + 1 ≤ gn) ∧ ∀ y ∈ nxN f.code x, At8 fn (nxN f.code) (openB f.safe) (gn, gi) (y : Int) (s + 1) by
            have h1 := K1.out
            rw [HGO.out] at h1
            have h2 := h1.step ho.1 ho.2.1 ho.2.2
            rw [← HGO.out, Int.toNat_natCast] at h2
            exact h2)
          have HNXT := Lib.hid (fun (V : World) (h : Below W2.heap.size W2 V) => (show Calls Tryd.prog 16 #[.agg #[.slice C fn fc, .slice S sm sd], .int .i64 x] V (RowOut V (nxN f.code x)) by
            have h1 := next_any (HT2.out.step h) (HFN2.out.step h) (show fn ≤ 70 by omega) (x : Int)
            rw [nxZ_nat] at h1
            exact h1))
          clear ho
          have HGS := Lib.hid (show gi = true → decide ((gn : Int) < (s : Int) + 1) = false from fun h => decide_eq_false (by have := HST.out.1 h; omega))
          have hsn : s ≤ 200 := by omega
          obtain ⟨l, HL⟩ : ∃ l, Hid (l = nxN f.code x) := ⟨_, Lib.hid rfl⟩
          rw [← HL.out] at HNXT
          go_upto_region 12 with (go_at_call 15; refine HRO.out.mono ?_; rintro e V1 ⟨rfl, hb1⟩; have HV2 := Lib.hid (HV2.out.trans (hb1.mono HV2.out.size)); have HVW := Lib.hid (HVW.out.trans (hb1.mono HVW.out.size)); have HV4 := Lib.hid (K2.out.trans (hb1.mono K2.out.size)); have q10 := Q0.out V1 HV2.out; have q11 := Q1.out V1 HV2.out; clear hb1)
          clear q0 q1
          cases gi with
          | false =>
            clear HGS
            go_upto_region 15 with (fail)
            go_upto_region 16 with (go_at_call 16; refine (HNXT.out _ HV2.out).mono ?_; rintro e V2 ⟨LA, lc, rfl, ho2, hb2⟩; have HO2 := Lib.hid ho2; have HV2 := Lib.hid (HV2.out.trans (hb2.mono HV2.out.size)); have HVW := Lib.hid (HVW.out.trans (hb2.mono HVW.out.size)); have HV4 := Lib.hid (HV4.out.trans (hb2.mono HV4.out.size)); clear ho2 hb2)
            clear q10 q11
            obtain ⟨len, HLN⟩ : ∃ m, Hid (m = l.length) := ⟨_, Lib.hid rfl⟩
            rw [← HLN.out] at HO2 ⊢
            by_cases hl0 : len = 0
            · have hl0' : ((len : Int) == 0) = true := by rw [hl0]; rfl
              go_wp2_with (go_at_call 8; refine (HAL.out _ HVW.out).mono ?_; rintro e Wz ⟨rfl, hbz⟩; have HBZ := Lib.hid hbz; clear hbz)
              go_ret
              exact ⟨rfl, HB.out.trans ((HVW.out.trans (HBZ.out.mono HVW.out.size)).mono HB.out.size)⟩
            · have hl0' : ((len : Int) == 0) = false := beq_eq_false_iff_ne.2 (by omega)
              obtain ⟨pbk, poff, eP, hpb, hpc⟩ := HPR.out.at_ (k := k) (by simp only [ints, List.length_map, ← HNP.out]; exact hlt)
              subst eP
              have hkp : k < picks.length := by rw [← HNP.out]; exact hlt
              have d0 : V2.cell? ⟨pbk, poff + k, none⟩ = some (.int .i64 picks[k]) := (HVW.out.cell hpb).trans (hpc k _ (by simp [ints, hkp]))
              obtain ⟨pk, HPK⟩ : ∃ z, Hid (z = picks[k]) := ⟨_, Lib.hid rfl⟩
              rw [← HPK.out] at d0
              have HMOD := Lib.hid (mod_any pk len (by omega) (by rw [HLN.out, HL.out]; have := nx_few f.code x; omega) V2)
              clear hpb hpc HPK hkp
              obtain ⟨lb, lo, eL, hlb, hlc⟩ := HO2.out.row.at_ (k := 0) (by simp only [ints, upI, List.length_map, ← HLN.out]; omega)
              subst eL
              have HLC := Lib.hid hlc
              clear hlb hlc
              go_upto_region 18 with (go_at_call 17; refine HMOD.out.mono ?_; rintro e V5 ⟨j, hj, rfl, rfl⟩; have hjl : j < l.length := (by rw [← HLN.out]; exact hj); obtain ⟨y, HY⟩ : ∃ y : Nat, Hid (y = l[j]) := ⟨_, Lib.hid rfl⟩; have HYM := Lib.hid (show y ∈ nxN f.code x by rw [HY.out, ← HL.out]; exact List.getElem_mem _); have e0 := HLC.out j (.int .i64 (y : Int)) (by simp [ints, upI, hjl, HY.out]); clear HY hjl)
              have hyn : y < fn := by rw [HFL.out]; exact nx_lt HYM.out
              have hxn := HXN.out
              have HRV := Lib.hid (HR1.out.below HV4.out HR1.out.lt)
              have r0 : V2.cell? ⟨rk, x, none⟩ = some (.bool (vs.getD x false)) := by rw [HRV.out.cell, bool_at8 _ _ (by rw [HVL.out]; exact hxn)]
              have r1 : V2.cell? ⟨rk, y, none⟩ = some (.bool (vs.getD y false)) := by rw [HRV.out.cell, bool_at8 _ _ (by rw [HVL.out]; exact hyn)]
              have HCL := Lib.hid (fun h => HR3.out.closed hxn hyn HYM.out h)
              have HAT := Lib.hid (HST.out.2 y HYM.out)
              obtain ⟨vx, HVX⟩ : ∃ v, Hid (v = vs.getD x false) := ⟨_, Lib.hid rfl⟩
              obtain ⟨vy, HVY⟩ : ∃ v, Hid (v = vs.getD y false) := ⟨_, Lib.hid rfl⟩
              rw [← HVX.out] at r0 HCL
              rw [← HVY.out] at r1 HCL
              cases vx with
              | false =>
                go_wp2_with fail
                exact ⟨⟨k + 1, s + 1, (y : Int), by omega, by omega, by go_num, by go_num, rfl, HAT, HV4⟩, by simp [intOf]; omega⟩
              | true =>
                obtain rfl : vy = true := HCL.out rfl
                go_wp2_with fail
                exact ⟨⟨k + 1, s + 1, (y : Int), by omega, by omega, by go_num, by go_num, rfl, HAT, HV4⟩, by simp [intOf]; omega⟩
          | true =>
            have hgs := HGS.out rfl
            clear HGS
            go_upto_region 15 with (fail)
            go_upto_region 16 with (go_at_call 16; refine (HNXT.out _ HV2.out).mono ?_; rintro e V2 ⟨LA, lc, rfl, ho2, hb2⟩; have HO2 := Lib.hid ho2; have HV2 := Lib.hid (HV2.out.trans (hb2.mono HV2.out.size)); have HVW := Lib.hid (HVW.out.trans (hb2.mono HVW.out.size)); have HV4 := Lib.hid (HV4.out.trans (hb2.mono HV4.out.size)); clear ho2 hb2)
            clear q10 q11
            obtain ⟨len, HLN⟩ : ∃ m, Hid (m = l.length) := ⟨_, Lib.hid rfl⟩
            rw [← HLN.out] at HO2 ⊢
            by_cases hl0 : len = 0
            · have hl0' : ((len : Int) == 0) = true := by rw [hl0]; rfl
              go_wp2_with (go_at_call 8; refine (HAL.out _ HVW.out).mono ?_; rintro e Wz ⟨rfl, hbz⟩; have HBZ := Lib.hid hbz; clear hbz)
              go_ret
              exact ⟨rfl, HB.out.trans ((HVW.out.trans (HBZ.out.mono HVW.out.size)).mono HB.out.size)⟩
            · have hl0' : ((len : Int) == 0) = false := beq_eq_false_iff_ne.2 (by omega)
              obtain ⟨pbk, poff, eP, hpb, hpc⟩ := HPR.out.at_ (k := k) (by simp only [ints, List.length_map, ← HNP.out]; exact hlt)
              subst eP
              have hkp : k < picks.length := by rw [← HNP.out]; exact hlt
              have d0 : V2.cell? ⟨pbk, poff + k, none⟩ = some (.int .i64 picks[k]) := (HVW.out.cell hpb).trans (hpc k _ (by simp [ints, hkp]))
              obtain ⟨pk, HPK⟩ : ∃ z, Hid (z = picks[k]) := ⟨_, Lib.hid rfl⟩
              rw [← HPK.out] at d0
              have HMOD := Lib.hid (mod_any pk len (by omega) (by rw [HLN.out, HL.out]; have := nx_few f.code x; omega) V2)
              clear hpb hpc HPK hkp
              obtain ⟨lb, lo, eL, hlb, hlc⟩ := HO2.out.row.at_ (k := 0) (by simp only [ints, upI, List.length_map, ← HLN.out]; omega)
              subst eL
              have HLC := Lib.hid hlc
              clear hlb hlc
              go_upto_region 18 with (go_at_call 17; refine HMOD.out.mono ?_; rintro e V5 ⟨j, hj, rfl, rfl⟩; have hjl : j < l.length := (by rw [← HLN.out]; exact hj); obtain ⟨y, HY⟩ : ∃ y : Nat, Hid (y = l[j]) := ⟨_, Lib.hid rfl⟩; have HYM := Lib.hid (show y ∈ nxN f.code x by rw [HY.out, ← HL.out]; exact List.getElem_mem _); have e0 := HLC.out j (.int .i64 (y : Int)) (by simp [ints, upI, hjl, HY.out]); clear HY hjl)
              have hyn : y < fn := by rw [HFL.out]; exact nx_lt HYM.out
              have hxn := HXN.out
              have HRV := Lib.hid (HR1.out.below HV4.out HR1.out.lt)
              have r0 : V2.cell? ⟨rk, x, none⟩ = some (.bool (vs.getD x false)) := by rw [HRV.out.cell, bool_at8 _ _ (by rw [HVL.out]; exact hxn)]
              have r1 : V2.cell? ⟨rk, y, none⟩ = some (.bool (vs.getD y false)) := by rw [HRV.out.cell, bool_at8 _ _ (by rw [HVL.out]; exact hyn)]
              have HCL := Lib.hid (fun h => HR3.out.closed hxn hyn HYM.out h)
              have HAT := Lib.hid (HST.out.2 y HYM.out)
              obtain ⟨vx, HVX⟩ : ∃ v, Hid (v = vs.getD x false) := ⟨_, Lib.hid rfl⟩
              obtain ⟨vy, HVY⟩ : ∃ v, Hid (v = vs.getD y false) := ⟨_, Lib.hid rfl⟩
              rw [← HVX.out] at r0 HCL
              rw [← HVY.out] at r1 HCL
              cases vx with
              | false =>
                go_wp2_with fail
                exact ⟨⟨k + 1, s + 1, (y : Int), by omega, by omega, by go_num, by go_num, rfl, HAT, HV4⟩, by simp [intOf]; omega⟩
              | true =>
                obtain rfl : vy = true := HCL.out rfl
                go_wp2_with fail
                exact ⟨⟨k + 1, s + 1, (y : Int), by omega, by omega, by go_num, by go_num, rfl, HAT, HV4⟩, by simp [intOf]; omega⟩
      · go_wp2_with (go_at_call 8; refine (HAL.out _ HVW.out).mono ?_; rintro e Wz ⟨rfl, hbz⟩; have HBZ := Lib.hid hbz; clear hbz)
        go_ret
        exact ⟨rfl, HB.out.trans ((HVW.out.trans (HBZ.out.mono HVW.out.size)).mono HB.out.size)⟩
end Go.Proofs.YtdpacdmaadodiaaDoor

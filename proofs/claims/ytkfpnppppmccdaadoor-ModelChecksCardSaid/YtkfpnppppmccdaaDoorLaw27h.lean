/-
  Chapter 27: the walk of ModelHolds. Conditions: the table is laid, the program and the events lie in memory.
-/
import Derived.Test.YtkfpnppppmccdaaDoorHol27
namespace Go.Proofs.YtkfpnppppmccdaaDoor
open Go.RowKit
/-- A model lies there, its holder owns the world. -/
def HoI (w : World) (gm : Nat) (F : Option Addr) (fc : Nat) (fs : List Fn) (g : Int) (wr : World) : Prop :=
  ∃ M ps L c Bs, MdIs wr w.heap.size gm F fc fs M ps L c Bs ∧ M.gs = g ∧ Below w.heap.size w wr ∧ invH M
theorem commitP_false {fs : List Fn} {M : Md} {g : Int} {k : Nat} {i : Ins} {n : Int} (h : (commitP fs M g k i n).2 = false) : (commitP fs M g k i n).1 = M := by
  unfold commitP at h ⊢
  simp only at h ⊢
  split at h
  · cases h
  · rename_i hn
    rw [if_neg hn]
theorem doP_false {fs : List Fn} {M : Md} {e : Ev} (h : (doP fs M e).2 = false) : (doP fs M e).1 = M := by
  unfold doP at h ⊢
  simp only at h ⊢
  split at h
  · rename_i ha
    rw [if_pos ha]
    split at h
    · rename_i hx
      rw [if_pos hx]
      split at h
      · rename_i hk
        rw [if_pos hk]
        split at h
        · rename_i hc
          rw [if_pos hc]
          exact commitP_false h
        · rename_i hc
          rw [if_neg hc]
      · rename_i hk
        rw [if_neg hk]
        split at h
        · cases h
        · rename_i hb
          rw [if_neg hb]
    · rename_i hx
      rw [if_neg hx]
  · rename_i ha
    rw [if_neg ha]
set_option maxRecDepth 10000 in
set_option maxHeartbeats 4000000 in
theorem holds27 {w : World} {F EA : Option Addr} {fc ec : Nat} {fs : List Fn} (hT : Tab w) (hf : FnsOk w w.heap.size F fs) (hfl : fs.length ≤ maxLen) (p g q : Int) (evs : List Ev) (n : Nat) (hn : evs.length = n) (hn2 : n ≤ maxLen) (hev : Row w w.heap.size EA (evs.flatMap evVals)) :
    Calls Tryd.prog 4 #[.agg #[.slice F fs.length fc], .agg #[.int .i64 p, .int .i64 g, .int .i64 q], .slice EA n ec] w fun r w' => r = .returned (.bool true) ∧ Below w.heap.size w w' := by
  obtain ⟨W, HW⟩ : ∃ W, Hid (W = (w.alloc (.cells #[.slice F fs.length fc] 24)).alloc (.cells #[.int .i64 p, .int .i64 g, .int .i64 q] 26)) := ⟨_, Lib.hid rfl⟩
  obtain ⟨gp, HGP⟩ : ∃ q, Hid (q = w.heap.size) := ⟨_, Lib.hid rfl⟩
  obtain ⟨gc, HGC⟩ : ∃ q, Hid (q = gp + 1) := ⟨_, Lib.hid rfl⟩
  have HBW := Lib.hid (show Below w.heap.size w W by rw [HW.out]; exact below2 w _ _)
  have HP := Lib.hid (show Blk W gp 24 #[.slice F fs.length fc] by rw [HW.out, HGP.out]; exact (Blk.new w _ _).alloc _)
  have HC := Lib.hid (show Blk W gc 26 #[.int .i64 p, .int .i64 g, .int .i64 q] by rw [HW.out, HGC.out, HGP.out]; exact heap_alloc2_new w _ _)
  have HF := Lib.hid hf
  have HFL := Lib.hid hfl
  have HT := Lib.hid hT
  have HN := Lib.hid hn
  have HEV := Lib.hid hev
  have HM0 := Lib.hid (show 0 < w.heap.size by obtain ⟨t, fr, h⟩ := hT; exact (Array.getElem?_eq_some_iff.1 h).1)
  have PC := Lib.hid (show ∀ V, Below W.heap.size W V → V.cell? ⟨gp, 0, none⟩ = some (.slice F fs.length fc) ∧ V.cell? ⟨gc, 0, none⟩ = some (.int .i64 p) ∧ V.cell? ⟨gc, 1, none⟩ = some (.int .i64 g) ∧ V.cell? ⟨gc, 2, none⟩ = some (.int .i64 q) from fun V h => ⟨((HP.out.below h HP.out.lt).cell 0).trans rfl, ((HC.out.below h HC.out.lt).cell 0).trans rfl, ((HC.out.below h HC.out.lt).cell 1).trans rfl, ((HC.out.below h HC.out.lt).cell 2).trans rfl⟩)
  have HLT := Lib.hid (light_any F fc fs W hfl ((hf.below HBW.out).more HBW.out.size))
  have hw := HW.out
  have hgp := HGP.out
  have hgc := HGC.out
  unfold maxLen at hn2
  have hn3 : n < 2 ^ 63 := by omega
  clear hT hf hfl hn hev
  obtain ⟨lt, HLE⟩ : ∃ x, Hid (x = lightP fs) := ⟨_, Lib.hid rfl⟩
  rw [← HLE.out] at HLT
  by_cases hgo : lt = true ∧ n ≤ 200
  · obtain ⟨rfl, hn200⟩ := hgo
    have e200 : decide (200 < n) = false := decide_eq_false (by omega)
    have e201 : decide ((200 : Int) < (n : Int)) = false := decide_eq_false (by omega)
    go_enter Tryd.func4, Tryd.ntmps4
    go_wp2_with fail
    rw [← hw, ← hgp]
    simp only [← hgc]
    clear hw hgp hgc
    refine HLT.out.mono ?_
    rintro e W1 ⟨rfl, hb1⟩
    have HB1 := Lib.hid (show SB27 W W1 from hb1)
    obtain ⟨p0, c0, c1, c2⟩ := PC.out W1 hb1
    clear hb1
    go_wp2_with fail
    refine (new27_any (m := w.heap.size) (F := F) (fc := fc) (fs := fs) ((HT.out.step HBW.out).step HB1.out) (Nat.le_trans HBW.out.size (Below.size HB1.out)) (HF.out.below (HBW.out.trans (Below.mono HB1.out HBW.out.size))) HFL.out p g q).mono ?_
    clear p0 c0 c1 c2
    rintro e W2 ⟨hb2, ⟨hne, rfl⟩ | ⟨h0, gm, pg, L, rfl, hM, hg1, hg2, hg3⟩⟩
    · have HB2 := Lib.hid (show SB27 W W2 from Below.trans HB1.out (hb2.mono (Below.size HB1.out)))
      obtain ⟨p0, c0, c1, c2⟩ := PC.out W2 HB2.out
      obtain ⟨a, b, f, HTRI⟩ : ∃ a b f, Hid (checkP fs = (a, b, f)) := ⟨_, _, _, Lib.hid rfl⟩
      have HCK := Lib.hid (fun (V : World) (h : SB27 W V) => rcheckP_any F fc fs V HFL.out ((HF.out.below (HBW.out.trans (Below.mono h HBW.out.size))).more (Nat.le_trans HBW.out.size (Below.size h))))
      rw [HTRI.out] at HCK
      unfold tri at HCK
      simp only at HCK
      obtain ⟨nf, HNF⟩ : ∃ x, Hid (x = newF fs p g q) := ⟨_, Lib.hid rfl⟩
      rw [← HNF.out] at hne ⊢
      have en : (nf != 0) = true := by simpa using hne
      have en2 : (nf == 0) = false := by simpa using hne
      have HNE := Lib.hid hne
      clear hb2 hne
      by_cases hf0 : f = 0
      · have ef : (f == 0) = true := by simpa using hf0
        have ef2 : (f != 0) = false := by simpa using hf0
        have HCF := Lib.hid (rconf_any p g q)
        obtain ⟨cv, HCV⟩ : ∃ x, Hid (x = confF p g q) := ⟨_, Lib.hid rfl⟩
        simp only [← HCV.out] at HCF
        have hcv : cv ≠ 0 := by
          have h1 := HNF.out
          unfold newF runB at h1
          rw [HTRI.out, if_pos (decide_eq_true hf0), ← HCV.out] at h1
          rw [← h1]
          exact HNE.out
        have ec : (cv == 0) = false := by simpa using hcv
        have ec2 : (cv != 0) = true := by simpa using hcv
        clear hf0 hcv
        go_wp2_with (first | (go_at_call 12; refine (HCK.out W2 HB2.out).mono ?_; rintro e W3 ⟨rfl, hb3⟩; have HB3 := Lib.hid (show SB27 W W3 from Below.trans HB2.out (hb3.mono (Below.size HB2.out))); obtain ⟨q0, d0, d1, d2⟩ := PC.out W3 HB3.out; clear hb3) | (go_at_call 13; refine (HCF.out W3).mono ?_; rintro e W4 ⟨rfl, hb4⟩; have HB4 := Lib.hid (show SB27 W W4 from Below.trans HB3.out (hb4.mono (Below.size HB3.out))); clear hb4) | (go_at_call 8; refine (alive27 W4 ((HT.out.step HBW.out).step HB4.out)).mono ?_; rintro e W5 ⟨rfl, hb5⟩; have HB5 := Lib.hid (show SB27 W W5 from Below.trans HB4.out (hb5.mono (Below.size HB4.out))); clear hb5))
        go_ret
        exact ⟨rfl, HBW.out.trans (Below.mono HB5.out HBW.out.size)⟩
      · have ef : (f == 0) = false := by simpa using hf0
        have ef2 : (f != 0) = true := by simpa using hf0
        clear hf0
        go_wp2_with (first | (go_at_call 12; refine (HCK.out W2 HB2.out).mono ?_; rintro e W3 ⟨rfl, hb3⟩; have HB3 := Lib.hid (show SB27 W W3 from Below.trans HB2.out (hb3.mono (Below.size HB2.out))); clear hb3) | (go_at_call 8; refine (alive27 W3 ((HT.out.step HBW.out).step HB3.out)).mono ?_; rintro e W5 ⟨rfl, hb5⟩; have HB5 := Lib.hid (show SB27 W W5 from Below.trans HB3.out (hb5.mono (Below.size HB3.out))); clear hb5))
        go_ret
        exact ⟨rfl, HBW.out.trans (Below.mono HB5.out HBW.out.size)⟩
    · have HB2 := Lib.hid (show SB27 W W2 from Below.trans HB1.out (hb2.mono (Below.size HB1.out)))
      have HG := Lib.hid (newF_gs h0).2
      have HI0 := Lib.hid (show HoI w gm F fc fs g W2 from ⟨_, _, _, _, _, hM, rfl, HBW.out.trans (Below.mono HB2.out HBW.out.size), fun h => absurd rfl h⟩)
      clear hb2 h0 hM hg1 hg2 hg3
      go_wp2_with fail
      go_loopw [12] (fun vi wr => ∃ k : Nat, k ≤ n ∧ vi = .int .i64 k ∧ Hid (HoI w gm F fc fs g wr)) (fun vi _ => n - (intOf vi).toNat)
      case atStart => exact ⟨0, Nat.zero_le _, rfl, HI0⟩
      case round =>
        obtain ⟨k, hk, rfl, HI⟩ := hrel
        by_cases hlt : k < n
        · obtain ⟨M, ps, L, c, Bs, hM, hgs, hb, hinv⟩ := HI.out
          have HKL := Lib.hid (show k < evs.length by have := HN.out; omega)
          have HMR := Lib.hid hM
          have HBR := Lib.hid hb
          have HGS := Lib.hid hgs
          have HINV := Lib.hid hinv
          have HHO := Lib.hid (holder27_any hM)
          obtain ⟨ev, HEVK⟩ : ∃ e, Hid (e = evs[k]'HKL.out) := ⟨_, Lib.hid rfl⟩
          obtain ⟨b, off, rfl, hbl, v0, v1, v2, v3, v4⟩ := ev_cells (HEV.out.below hb) HKL.out
          rw [← HEVK.out] at v0 v1 v2 v3 v4
          have HV1 := Lib.hid (show ∀ V, Below w.heap.size wr V → V.cell? ⟨b, off + k * 5 + 1, none⟩ = some (.int .i64 ev.g) from fun V h => (Below.cell (p := ⟨b, off + k * 5 + 1, none⟩) h hbl).trans v1)
          obtain ⟨bo, HBO⟩ : ∃ x, Hid (x = (doP fs M ev).2) := ⟨_, Lib.hid rfl⟩
          have HDO := Lib.hid (do27_any hM hb.size (HT.out.step hb) HM0.out (by rw [hgs]; have := HG.out; omega) ev)
          rw [← HBO.out] at HDO
          unfold evArr at HDO
          clear hM hb hgs hinv hbl
          cases bo with
          | false =>
            simp only [Bool.false_eq_true, if_false] at HDO
            go_wp2_with (first | (go_at_call 14; refine HHO.out.mono ?_; rintro e w1 ⟨rfl, rfl⟩) | (go_at_call 15; refine HDO.out.mono ?_; rintro e W3 ⟨rfl, hd⟩; have HD := Lib.hid hd; clear hd))
            have HI3 := Lib.hid (show HoI w gm F fc fs g W3 by
              have hd := HD.out
              have hb3 := hd.below HMR.out HBR.out.size
              obtain ⟨ex, L', c', Bs', hM3, -, -, -⟩ := hd
              have hx : (doP fs M ev).1 = M := doP_false HBO.out.symm
              rw [hx] at hM3
              exact ⟨_, _, _, _, _, hM3, HGS.out, HBR.out.trans hb3, HINV.out⟩)
            go_roundw
            case rel => exact ⟨k + 1, by omega, by go_num, HI3⟩
            case measure => simp [intOf]; omega
          | true =>
            simp only [if_true] at HDO
            obtain ⟨hac, hinv2, hsus⟩ := holds_step (e := ev) HINV.out HBO.out.symm
            obtain ⟨ho, HHE⟩ : ∃ x, Hid (x = M.holder) := ⟨_, Lib.hid rfl⟩
            rw [← HHE.out] at HHO hac
            obtain ⟨M', HM'⟩ : ∃ x, Hid (x = (doP fs M ev).1) := ⟨_, Lib.hid rfl⟩
            rw [← HM'.out] at HDO hinv2 hsus
            have HSUS := Lib.hid hsus
            have HINV2 := Lib.hid hinv2
            obtain ⟨eg, HEG⟩ : ∃ x, Hid (x = ev.g) := ⟨_, Lib.hid rfl⟩
            rw [← HEG.out] at hac v1 HDO HSUS HV1
            obtain ⟨ho2, HHO2⟩ : ∃ x, Hid (x = M'.holder) := ⟨_, Lib.hid rfl⟩
            obtain ⟨ow2, HOW2⟩ : ∃ x, Hid (x = M'.owner) := ⟨_, Lib.hid rfl⟩
            have hi2 : ho2 ≠ 0 → ow2 = ho2 := by rw [HHO2.out, HOW2.out]; exact hinv2
            have hcase : (ho != 0) = false ∧ (ho == 0) = true ∨ (ho != 0) = true ∧ (ho == 0) = false ∧ (eg != ho) = false ∧ (eg == ho) = true := by
              by_cases h0 : ho = 0
              · left; simp [h0]
              · right
                rcases hac with h | h
                · exact absurd h h0
                · rw [← h]; simp [h0]
            have hcase2 : (ho2 != 0) = false ∧ (ho2 == 0) = true ∨ (ho2 != 0) = true ∧ (ho2 == 0) = false ∧ (ow2 != ho2) = false ∧ (ow2 == ho2) = true := by
              by_cases h0 : ho2 = 0
              · left; simp [h0]
              · right
                simp [h0, hi2 h0]
            clear hac hinv2 hsus hi2
            rcases hcase with ⟨a1, a2⟩ | ⟨a1, a2, a3, a4⟩ <;> rcases hcase2 with ⟨b1, b2⟩ | ⟨b1, b2, b3, b4⟩
            all_goals
              go_wp2_with (first | (go_at_call 14; refine HHO.out.mono ?_; rintro e w1 ⟨rfl, rfl⟩) | (go_at_call 15; refine HDO.out.mono ?_; rintro e W3 ⟨rfl, hd⟩; have HB3 := Lib.hid (show Below w.heap.size w W3 from HBR.out.trans (hd.below HMR.out HBR.out.size)); have g1 := HV1.out W3 (hd.below HMR.out HBR.out.size); obtain ⟨ex, L', c', Bs', hM3, -, -, -⟩ := hd; have HM3 := Lib.hid hM3; have HH3 := Lib.hid (holder27_any hM3); have HO3 := Lib.hid (owner27_any hM3); have HS3 := Lib.hid (suspended27_any hM3 eg); rw [HSUS.out] at HS3; rw [← HHO2.out] at HH3; rw [← HOW2.out] at HO3; clear hM3) | (go_at_call 14; refine HH3.out.mono ?_; rintro e w4 ⟨rfl, rfl⟩) | (go_at_call 16; refine HO3.out.mono ?_; rintro e w4 ⟨rfl, rfl⟩) | (go_at_call 17; refine HS3.out.mono ?_; rintro e w4 ⟨rfl, rfl⟩))
              have HI3 := Lib.hid (show HoI w gm F fc fs g W3 from ⟨_, _, _, _, _, HM3.out, by rw [HM'.out, doP_gs, HGS.out], HB3.out, HINV2.out⟩)
              go_roundw
              case rel => exact ⟨k + 1, by omega, by go_num, HI3⟩
              case measure => simp [intOf]; omega
        · clear HI0
          have HBR := Lib.hid (show Below w.heap.size w wr by obtain ⟨_, _, _, _, _, -, -, hb, -⟩ := HI.out; exact hb)
          have hkn : k = n := by omega
          subst hkn
          clear HI
          go_wp2_with (first | (go_at_call 8; refine (alive27 wr (HT.out.step HBR.out)).mono ?_; rintro e W5 ⟨rfl, hb5⟩; have HB5 := Lib.hid (HBR.out.trans (hb5.mono HBR.out.size)); clear hb5))
          go_ret
          exact ⟨rfl, HB5.out⟩
  · cases lt with
    | false =>
      clear hgo
      go_enter Tryd.func4, Tryd.ntmps4
      go_wp2_with fail
      rw [← hw]
      clear hw hgp hgc
      refine HLT.out.mono ?_
      rintro e W1 ⟨rfl, hb1⟩
      have HB1 := Lib.hid (show SB27 W W1 from hb1)
      clear hb1
      go_wp2_with (first | (go_at_call 8; refine (alive27 W1 ((HT.out.step HBW.out).step HB1.out)).mono ?_; rintro e W5 ⟨rfl, hb5⟩; have HB5 := Lib.hid (show SB27 W W5 from Below.trans HB1.out (hb5.mono (Below.size HB1.out))); clear hb5))
      go_ret
      exact ⟨rfl, HBW.out.trans (Below.mono HB5.out HBW.out.size)⟩
    | true =>
      have h200 : 200 < n := by
        rcases Nat.lt_or_ge 200 n with h | h
        · exact h
        · exact absurd ⟨rfl, h⟩ hgo
      have e200 : decide (200 < n) = true := decide_eq_true h200
      have e201 : decide ((200 : Int) < (n : Int)) = true := decide_eq_true (by omega)
      clear hgo h200
      go_enter Tryd.func4, Tryd.ntmps4
      go_wp2_with fail
      rw [← hw]
      clear hw hgp hgc
      refine HLT.out.mono ?_
      rintro e W1 ⟨rfl, hb1⟩
      have HB1 := Lib.hid (show SB27 W W1 from hb1)
      clear hb1
      go_wp2_with (first | (go_at_call 8; refine (alive27 W1 ((HT.out.step HBW.out).step HB1.out)).mono ?_; rintro e W5 ⟨rfl, hb5⟩; have HB5 := Lib.hid (show SB27 W W5 from Below.trans HB1.out (hb5.mono (Below.size HB1.out))); clear hb5))
      go_ret
      exact ⟨rfl, HBW.out.trans (Below.mono HB5.out HBW.out.size)⟩
end Go.Proofs.YtkfpnppppmccdaaDoor

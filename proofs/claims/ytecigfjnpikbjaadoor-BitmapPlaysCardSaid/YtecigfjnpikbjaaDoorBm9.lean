/-
  Chapter 5: contracts of Count and Next. Conditions: the map lies in memory, and the library's table.
-/
import Derived.Test.YtecigfjnpikbjaaDoorBm8
import Derived.WalkMore
namespace Go.Proofs.YtecigfjnpikbjaaDoor
open Go.RowKit
/-- How many of the first n are true. -/
def cntB (bs : List Bool) : Nat → Nat
  | 0 => 0
  | n + 1 => cntB bs n + (bs.getD n false).toNat
theorem cntB_le (bs : List Bool) : ∀ n, cntB bs n ≤ n
  | 0 => by simp [cntB]
  | n + 1 => by
    have := cntB_le bs n
    have h := Bool.toNat_le (bs.getD n false)
    unfold cntB
    omega
theorem cntB_add (bs : List Bool) (x j : Nat) (hx : ∀ b, b < 64 → x.testBit b = bs.getD (64 * j + b) false) : ∀ m, m ≤ 64 → cntB bs (64 * j + m) = cntB bs (64 * j) + popB x m
  | 0, _ => rfl
  | m + 1, h => by
    have ih := cntB_add bs x j hx m (by omega)
    show cntB bs (64 * j + m) + (bs.getD (64 * j + m) false).toNat = _ + (popB x m + _)
    rw [ih, hx m (by omega)]
    omega
theorem cntB_more (bs : List Bool) (n : Nat) (h : bs.length ≤ n) : ∀ m, cntB bs (n + m) = cntB bs n
  | 0 => rfl
  | m + 1 => by
    have ih := cntB_more bs n h m
    show cntB bs (n + m) + _ = _
    have : bs.length ≤ n + m := by omega
    rw [ih]
    simp [this]
set_option maxHeartbeats 1000000 in
theorem count_any {w : World} {g gw : Nat} {ws : List Nat} {bs : List Bool} (M : Bm w g gw ws bs) : Calls Tryd.prog 22 #[.pointer (some ⟨g, 0, none⟩)] w fun e w' => e = .returned (.int .i64 (cntB bs bs.length)) ∧ w = w' := by
  have HM := Lib.hid M
  have hsm := M.small
  have h1 := M.blk.cell 1
  simp at h1
  have HWL := Lib.hid (show ws.length = (bs.length + 63) / 64 from M.ok.1)
  have hnn : ∃ nw : Nat, Hid (nw = ws.length) := ⟨_, rfl⟩
  obtain ⟨nw, HNN⟩ := hnn
  rw [← HNN.out] at h1
  have hnw : nw ≤ 64 := by have := HNN.out; have := HWL.out; omega
  clear M
  go_enter Tryd.func22, Tryd.ntmps22
  go_wp2_with fail
  go_loop [2, 12] (fun v2 vi => ∃ k : Nat, k ≤ nw ∧ vi = .int .i64 k ∧ v2 = .int .i64 (cntB bs (64 * k))) (fun _ vi => nw - (intOf vi).toNat)
  case atStart => exact ⟨0, by omega, rfl, rfl⟩
  case round =>
    obtain ⟨k, hk, rfl, rfl⟩ := hrel
    have hle := cntB_le bs (64 * k)
    by_cases hlt : k < nw
    · have hkl : k < ws.length := by rw [← HNN.out]; exact hlt
      have hc : w.cell? ⟨gw, k, none⟩ = some (.int .u64 (ws[k] : Nat)) := by
        rw [HM.out.row.cell]; simp [wordVals, hkl]
      obtain ⟨hlt2, hbit⟩ := HM.out.ok.2 k hkl
      have HA := Lib.hid (cntB_add bs ws[k] k hbit 64 (Nat.le_refl _))
      have hle2 := cntB_le bs (64 * k + 64)
      rw [HA.out] at hle2
      generalize ws[k] = x at *
      clear hbit
      go_wp2_with (go_at_call 27; refine (ones_any x hlt2 _).mono ?_; rintro e w1 ⟨rfl, rfl⟩)
      go_round
      case rel => exact ⟨k + 1, by omega, by go_num, by rw [Nat.mul_add, Nat.mul_one, HA.out]; go_num⟩
      case measure => simp [intOf]; omega
    · have hkn : k = nw := by omega
      subst hkn
      go_wp2_with fail
      go_ret
      refine ⟨?_, rfl⟩
      have e : 64 * k = bs.length + (64 * k - bs.length) := by have := HNN.out; have := HWL.out; omega
      rw [e, cntB_more bs _ (Nat.le_refl _)]
      rfl
theorem count_nil (w : World) : Calls Tryd.prog 22 #[.pointer none] w fun e w' => e = .returned (.int .i64 0) ∧ w = w' := by
  go_enter Tryd.func22, Tryd.ntmps22
  go_wp2_with fail
  go_ret
  exact ⟨rfl, rfl⟩
/-- The first place from k on that is marked, or -1. -/
def nextN (bs : List Bool) (k : Nat) : Int := match ((List.range bs.length).find? fun j => decide (k ≤ j) && bs.getD j false) with | some j => j | none => -1
theorem nextN_none {bs : List Bool} {k : Nat} (h : ∀ j, k ≤ j → bs.getD j false = false) : nextN bs k = -1 := by
  unfold nextN
  have : ((List.range bs.length).find? fun j => decide (k ≤ j) && bs.getD j false) = none := by
    rw [List.find?_eq_none]
    intro j _ hj
    simp only [Bool.and_eq_true, decide_eq_true_eq] at hj
    rw [h j hj.1] at hj
    cases hj.2
  rw [this]
theorem nextN_some {bs : List Bool} {k j : Nat} (hkj : k ≤ j) (hj : bs.getD j false = true) (h : ∀ m, k ≤ m → m < j → bs.getD m false = false) : nextN bs k = j := by
  unfold nextN
  have hl : j < bs.length := by
    refine Classical.byContradiction fun hn => ?_
    have : bs.length ≤ j := by omega
    simp [this] at hj
  have : ((List.range bs.length).find? fun j => decide (k ≤ j) && bs.getD j false) = some j := by
    rw [List.find?_range_eq_some]
    refine ⟨by simp [hkj]; simpa using hj, by simpa using hl, fun m hm => ?_⟩
    by_cases hkm : k ≤ m
    · have := h m hkm hm
      rw [this]; simp
    · simp [hkm]
  rw [this]
theorem getD_out {bs : List Bool} {j : Nat} (h : bs.length ≤ j) : bs.getD j false = false := by simp [h]
/-- A word shifted, and its lowest bit. -/
theorem shifted {bs : List Bool} {W k : Nat} (hW : W < 18446744073709551616) (hb : ∀ b, b < 64 → W.testBit b = bs.getD (64 * (k / 64) + b) false) :
    (W / 2 ^ (k % 64) = 0 → ∀ j, k ≤ j → j < (k / 64 + 1) * 64 → bs.getD j false = false) ∧
    (W / 2 ^ (k % 64) ≠ 0 → Lib.ctz 64 (W / 2 ^ (k % 64)) < 64 ∧ bs.getD (k + Lib.ctz 64 (W / 2 ^ (k % 64))) false = true ∧ ∀ m, k ≤ m → m < k + Lib.ctz 64 (W / 2 ^ (k % 64)) → bs.getD m false = false) := by
  have hat : ∀ c, c + k % 64 < 64 → (W / 2 ^ (k % 64)).testBit c = bs.getD (k + c) false := by
    intro c hc
    rw [Nat.testBit_div_two_pow, hb (c + k % 64) hc]
    have : 64 * (k / 64) + (c + k % 64) = k + c := by omega
    rw [this]
  constructor
  · intro h0 j hj hj2
    have := hat (j - k) (by omega)
    rw [h0, Nat.zero_testBit] at this
    have e : k + (j - k) = j := by omega
    rw [e] at this
    exact this.symm
  · intro h0
    have hlt : W / 2 ^ (k % 64) < 2 ^ 64 := Nat.lt_of_le_of_lt (Nat.div_le_self _ _) hW
    obtain ⟨m, hm, hf⟩ := Lib.ctzFrom_spec 64 (W / 2 ^ (k % 64)) (Nat.pos_of_ne_zero h0) hlt
    have ec : Lib.ctz 64 (W / 2 ^ (k % 64)) = Lib.ctzFrom 64 (W / 2 ^ (k % 64)) := by unfold Lib.ctz; rw [if_neg h0]
    rw [ec]
    generalize hX : W / 2 ^ (k % 64) = X at *
    generalize Lib.ctzFrom 64 X = c at *
    have hbit : X.testBit c = true := by
      rw [hm, Nat.testBit_two_pow_mul]
      simp
    have hlow : ∀ d, d < c → X.testBit d = false := by
      intro d hd
      rw [hm, Nat.testBit_two_pow_mul]
      have : ¬ c ≤ d := by omega
      simp [this]
    have hc64 : c + k % 64 < 64 := by
      refine Classical.byContradiction fun hn => ?_
      have h1 : W.testBit (c + k % 64) = true := by rw [← Nat.testBit_div_two_pow, hX]; exact hbit
      have h2 : W.testBit (c + k % 64) = false := Nat.testBit_lt_two_pow (Nat.lt_of_lt_of_le hW (by
        have : (2 : Nat) ^ 64 ≤ 2 ^ (c + k % 64) := Nat.pow_le_pow_right (by omega) (by omega)
        simpa using this))
      rw [h1] at h2; cases h2
    refine ⟨hf, by rw [← hat c hc64]; exact hbit, fun m hm1 hm2 => ?_⟩
    have := hat (m - k) (by omega)
    rw [hlow (m - k) (by omega)] at this
    have e : k + (m - k) = m := by omega
    rw [e] at this
    exact this.symm
set_option maxHeartbeats 2000000 in
theorem next_any {w : World} {g gw : Nat} {ws : List Nat} {bs : List Bool} (i : Int) (M : Bm w g gw ws bs) (hT : Tab w) : Calls Tryd.prog 23 #[.pointer (some ⟨g, 0, none⟩), .int .i64 i] w fun e w' => e = .returned (.int .i64 (nextN bs i.toNat)) ∧ w = w' := by
  have HM := Lib.hid M
  have HT := Lib.hid hT
  have hsm := M.small
  have h1 := M.blk.cell 1
  simp at h1
  have HWL := Lib.hid (show ws.length = (bs.length + 63) / 64 from M.ok.1)
  have hnn : ∃ nw : Nat, Hid (nw = ws.length) := ⟨_, rfl⟩
  obtain ⟨nw, HNN⟩ := hnn
  rw [← HNN.out] at h1
  have hnb : ∃ n : Nat, Hid (n = bs.length) := ⟨_, rfl⟩
  obtain ⟨n, HNB⟩ := hnb
  rw [← HNB.out] at hsm
  clear M hT
  have hss : ∃ s : Nat, Hid (i.toNat = s) := ⟨_, rfl⟩
  obtain ⟨s, HS⟩ := hss
  rw [HS.out]
  have hcase : (0 ≤ i ∧ i = (s : Int)) ∨ (i < 0 ∧ s ≤ 0) := by have := HS.out; omega
  clear HS
  rcases hcase with ⟨hi, rfl⟩ | ⟨hi, hs0⟩
  all_goals
    go_enter Tryd.func23, Tryd.ntmps23
    go_wp2_with fail
    go_step3
    go_wp2_with fail
    go_step3
    go_wp2_with fail
    go_loop [1] (fun v => ∃ k : Nat, v = .int .i64 k ∧ Hid (∀ j, s ≤ j → j < k → bs.getD j false = false) ∧ s ≤ k) (fun v => n - (intOf v).toNat)
    case atStart => first | exact ⟨s, rfl, (fun j h1 h2 => by omega), by omega⟩ | exact ⟨0, rfl, (fun j h1 h2 => by omega), by omega⟩
    case round =>
      obtain ⟨k, rfl, HK, hsk⟩ := hrel
      by_cases hlt : k < n
      · have hkb : k < bs.length := by rw [← HNB.out]; exact hlt
        have hq : k / 64 < ws.length := by have := HWL.out; omega
        have hq2 : k / 64 < nw := by rw [HNN.out]; exact hq
        have hc : w.cell? ⟨gw, k / 64, none⟩ = some (.int .u64 (ws[k / 64] : Nat)) := by
          rw [HM.out.row.cell]; simp [wordVals, hq]
        obtain ⟨hlt2, hbit⟩ := HM.out.ok.2 (k / 64) hq
        have HSH := Lib.hid (shifted hlt2 hbit)
        generalize ws[k / 64] = x at *
        have hxl : x / 2 ^ (k % 64) < 18446744073709551616 := Nat.lt_of_le_of_lt (Nat.div_le_self _ _) hlt2
        clear hbit
        by_cases hx0 : x / 2 ^ (k % 64) = 0
        · have hx0' : (x : Int) / 2 ^ (k % 64) = 0 := by
            have e : ((x : Int) / 2 ^ (k % 64)) = ((x / 2 ^ (k % 64) : Nat) : Int) := by simp
            rw [e, hx0]; rfl
          have HZ := Lib.hid (HSH.out.1 hx0)
          clear hx0 hxl
          go_wp2_with (go_at_call 18; have hl := len_any HM.out; rw [← HNB.out] at hl; refine hl.mono ?_; rintro e w1 ⟨rfl, rfl⟩; clear hl)
          go_round
          case rel =>
            refine ⟨(k / 64 + 1) * 64, by go_num, ?_, by omega⟩
            show ∀ j, s ≤ j → _
            intro j h1 h2
            by_cases hjk : j < k
            · exact HK.out j h1 hjk
            · exact HZ.out j (by omega) h2
          case measure => simp [intOf]; omega
        · have hx0' : (((x : Int) / 2 ^ (k % 64)) == 0) = false := by
            have e : ((x : Int) / 2 ^ (k % 64)) = ((x / 2 ^ (k % 64) : Nat) : Int) := by simp
            rw [e]; simp; omega
          have hcast : ((x : Int) / 2 ^ (k % 64)) = ((x / 2 ^ (k % 64) : Nat) : Int) := by simp
          obtain ⟨hc64, hz1, hz2⟩ := HSH.out.2 hx0
          have HTZ := Lib.hid (tz_any _ hxl hx0 w HT.out)
          have HN := Lib.hid (nextN_some (k := s) (j := k + Lib.ctz 64 (x / 2 ^ (k % 64))) (by omega) hz1 (fun m h1 h2 => by
            by_cases hmk : m < k
            · exact HK.out m h1 hmk
            · exact hz2 m (by omega) h2))
          generalize x / 2 ^ (k % 64) = y at *
          generalize Lib.ctz 64 y = c at *
          clear hz1 hz2 hx0
          go_wp2_with (first | (go_at_call 18; have hl := len_any HM.out; rw [← HNB.out] at hl; refine hl.mono ?_; rintro e w1 ⟨rfl, rfl⟩; clear hl) | (go_at_call 28; refine HTZ.out.mono ?_; rintro e w1 ⟨rfl, rfl⟩))
          rw [Exit.noGoto_ret]
          go_ret
          exact ⟨by rw [HN.out]; simp, rfl⟩
      · go_wp2_with (go_at_call 18; have hl := len_any HM.out; rw [← HNB.out] at hl; refine hl.mono ?_; rintro e w1 ⟨rfl, rfl⟩; clear hl)
        rw [Exit.noGoto_ret]
        go_ret
        refine ⟨?_, rfl⟩
        rw [nextN_none (fun j hj => by
          by_cases hjk : j < k
          · exact HK.out j hj hjk
          · exact getD_out (by rw [← HNB.out]; omega))]
        rfl
end Go.Proofs.YtecigfjnpikbjaaDoor

/-
  Chapter 5: contract of the reference's Bytes. Condition: the truths lie in memory.
-/
import Derived.Test.YthcbceaeobnmgaaDoorBm5
namespace Go.Proofs.YthcbceaeobnmgaaDoor
open Go.RowKit
def twoP (m : Nat) : Nat := 2 ^ m
set_option maxHeartbeats 4000000 in
set_option maxRecDepth 100000 in
theorem rbytes_any (A : Option Addr) (n c : Nat) (bs : List Bool) (w : World) (hl : bs.length = n) (hsm : n ≤ 4096) (hr : Row w w.heap.size A (boolVals bs)) : Calls Tryd.prog 25 #[.slice A n c] w fun e w' => ∃ A' c', e = .returned (.slice A' (bytesOf bs).length c') ∧ Own w' w.heap.size 5 1 A' (bytesOf bs).length c' (byteVals (bytesOf bs)) ∧ Below w.heap.size w w' := by
  obtain ⟨i0, hi, hz0, hz1, hz2⟩ := info_parts Tryd.infoU8
  have HI := Lib.hid hi
  have HZ0 := Lib.hid hz0
  have HZ1 := Lib.hid hz1
  have HZ2 := Lib.hid hz2
  have HN := Lib.hid hl
  have HR := Lib.hid hr
  clear hi hz0 hz1 hz2 hl hr
  go_enter Tryd.func25, Tryd.ntmps25
  go_wp2_with fail
  have hO0 : Own (w.alloc (.cells #[.int .u8 ((n : Int) / 256), .int .u8 ((n : Int) % 256)] 5)) w.heap.size 5 1 (some ⟨w.heap.size, 0, none⟩) 2 2 (byteVals ([n / 256, n % 256] ++ (List.range 0).map (byteAt bs))) := by
    have h := World.ownsRow_lit (base := w.heap.size) (e := 5) (size := 1) w #[.int .u8 ((n : Int) / 256), .int .u8 ((n : Int) % 256)] 2 (Nat.le_refl _) (by unfold maxLen; omega) (by simp)
    have e : (#[.int .u8 ((n : Int) / 256), .int .u8 ((n : Int) % 256)] : Array Value).toList = byteVals ([n / 256, n % 256] ++ (List.range 0).map (byteAt bs)) := by simp [byteVals]
    rw [e] at h
    exact h
  have HO0 := Lib.hid hO0
  have HB0 := Lib.hid (show Below w.heap.size w (w.alloc (.cells #[.int .u8 ((n : Int) / 256), .int .u8 ((n : Int) % 256)] 5)) from (Below.refl _ _).alloc (Nat.le_refl _) _)
  clear hO0
  generalize (w.alloc (.cells #[.int .u8 ((n : Int) / 256), .int .u8 ((n : Int) % 256)] 5)) = W0 at *
  go_loopw [3, 4] (fun v3 vi wr => ∃ (q : Nat) (A : Option Addr) (c : Nat), q ≤ (n + 7) / 8 ∧ vi = .int .i64 (8 * (q : Int)) ∧ v3 = .slice A (2 + q) c ∧ Own wr w.heap.size 5 1 A (2 + q) c (byteVals ([n / 256, n % 256] ++ (List.range q).map (byteAt bs))) ∧ Below w.heap.size w wr) (fun _ vi _ => n + 8 - (intOf vi).toNat)
  case atStart => exact ⟨0, _, _, by omega, rfl, rfl, HO0.out, HB0.out⟩
  case round =>
    obtain ⟨q, A2, c2, hq, rfl, rfl, hO, hB⟩ := hrel
    have HO := Lib.hid hO
    have HB := Lib.hid hB
    have hsz : w.heap.size ≤ wr.heap.size := hB.size
    clear hO hB HO0 HB0
    by_cases hlt : 8 * q < n
    · have hib0 : 8 * q < bs.length := by rw [HN.out]; exact hlt
      obtain ⟨b, off, e, hbb, hc⟩ := (HR.out.below HB.out).at_ (k := 8 * q) (by simp [boolVals]; exact hib0)
      have HC := Lib.hid hc
      have hdq : decide (8 * (q : Int) < (n : Int)) = true := by simp; omega
      subst e
      clear hc
      go_wp2_with fail
      go_loopw [5, 6, 7] (fun v5 v6 v7 wq => ∃ m : Nat, m ≤ 8 ∧ wq = wr ∧ v7 = .int .i64 (8 * (q : Int) + (m : Int)) ∧ v5 = .int .i64 ((part bs q m : Nat) : Int) ∧ v6 = .int .i64 ((twoP m : Nat) : Int)) (fun _ _ v7 _ => 8 * q + 8 - (intOf v7).toNat)
      case atStart => exact ⟨0, by omega, rfl, by simp, rfl, rfl⟩
      case round =>
        obtain ⟨m, hm, hwq, rfl, rfl, rfl⟩ := hrel
        subst hwq
        have hpl : part bs q m < twoP m := part_lt bs q m
        have hpw : twoP m ≤ 256 := Nat.le_trans (Nat.pow_le_pow_right (by omega) hm) (by decide)
        by_cases hm8 : m < 8
        · have HPS := Lib.hid (show part bs q (m + 1) = part bs q m + if bs.getD (8 * q + m) false = true then twoP m else 0 from by unfold twoP; rfl)
          have HPP := Lib.hid (show twoP (m + 1) = 2 * twoP m by unfold twoP; rw [Nat.pow_succ]; omega)
          generalize part bs q m = pm at *
          generalize twoP m = tw at *
          by_cases hin : 8 * q + m < n
          · have hib : 8 * q + m < bs.length := by rw [HN.out]; exact hin
            have hc0 := HC.out (8 * q + m) _ (boolVals_at bs (8 * q + m) hib)
            have hg : bs.getD (8 * q + m) false = bs[8 * q + m] := by simp [hib]
            rw [hg] at HPS
            generalize bs[8 * q + m] = x at *
            clear hg
            cases x
            · go_wp2_with fail
              go_roundw
              case rel => exact ⟨m + 1, by omega, trivial, by go_num, by rw [HPS.out]; rfl, by rw [HPP.out]; go_num⟩
              case measure => simp [intOf]; omega
            · go_wp2_with fail
              go_roundw
              case rel => exact ⟨m + 1, by omega, trivial, by go_num, by rw [HPS.out]; go_num, by rw [HPP.out]; go_num⟩
              case measure => simp [intOf]; omega
          · have hg : bs.getD (8 * q + m) false = false := by
              have : bs.length ≤ 8 * q + m := by rw [HN.out]; omega
              simp [this]
            rw [hg] at HPS
            have hd : decide (8 * (q : Int) + (m : Int) < (n : Int)) = false := by simp; omega
            clear hg
            go_wp2_with fail
            go_roundw
            case rel => exact ⟨m + 1, by omega, trivial, by go_num, by rw [HPS.out]; rfl, by rw [HPP.out]; go_num⟩
            case measure => simp [intOf]; omega
        · have hm88 : m = 8 := by omega
          subst hm88
          have HBA := Lib.hid (show part bs q 8 = byteAt bs q from rfl)
          have hbl : part bs q 8 < 256 := byteAt_lt bs q
          generalize part bs q 8 = x at *
          clear hpl hpw
          generalize twoP 8 = tw at *
          have c1 : Hid (2 + q + 1 ≤ maxLen) := by unfold maxLen; show _ ≤ _; omega
          go_wp2_with (at_builtin; go_must (refine wpList_append_1 _ rfl _ _ 35 rfl w.heap.size 5 i0 _ 1 1 Tryd.underlying35 HI.out HZ0.out HZ1.out HZ2.out rfl (by decide) _ _ _ _ rfl (HO.out.alloc _) ⟨wr.heap.size, 0, none⟩ 1 [.int .u8 (x : Int)] rfl rfl (onecell _ _ _) (by simp [Value.oneCell']) c1.out (by omega) (by rw [World.size_alloc]; omega) ?_); intro A' c' w5 hown1 hgrow1 hat1)
          rw [HBA.out] at hown1
          go_roundw
          case rel => exact ⟨q + 1, A', c', by omega, by go_num, by rw [Nat.add_assoc], by rw [List.range_succ, List.map_append, ← List.append_assoc, ← Nat.add_assoc]; simpa [byteVals] using hown1, below_append HB.out HO.out (Nat.le_refl _) hsz hgrow1⟩
          case measure => simp [intOf]; omega
    · have hqn : q = (n + 7) / 8 := by omega
      have HQ := Lib.hid hqn
      clear hqn
      go_wp2_with fail
      go_ret
      have e : bytesOf bs = [n / 256, n % 256] ++ (List.range q).map (byteAt bs) := by unfold bytesOf; rw [HN.out, HQ.out]
      have el : (bytesOf bs).length = 2 + q := by rw [e]; simp; omega
      rw [el]
      exact ⟨A2, c2, rfl, by rw [e]; exact HO.out, HB.out⟩
end Go.Proofs.YthcbceaeobnmgaaDoor

/-
  Chapter 14: alive.
-/
import Derived.Test.YthnhjhlpimgkiaaPtt14
import Derived.Test.YthnhjhlpimgkiaaStp14
import Derived.LoopTactic
namespace Go.Proofs.Ythnhjhlpimgkiaa
open Go.RowKit
/-- The example's cells, access by access. -/
def aX : Nat → List Int
  | 0 => [0, 0, 0, 0, 0, 0, 0]
  | 1 => [0, 0, 0, 0, 0, 0, 0]
  | 2 => [0, 0, 0, 0, 0, 0, 0]
  | 3 => [0, 0, 0, 5, 0, 0, 0]
  | _ => [0, 1, 0, 5, 0, 0, 0]
/-- Its task. -/
def aD : Nat → Option Nat
  | 0 => some 26
  | 1 => some 42
  | 2 => some 55
  | 3 => some 63
  | _ => none
def aT (k : Nat) : Tk := ⟨aD k, 5, 0, 0, 0, 0, .slice none 0 0, .slice none 0 0, k⟩
theorem alive_step {w : World} {gt gr gc gl kc : Nat} {ex : List Value} (k : Nat) (hk : k < 4) (M : M14 w gt gr gc gl kc ex 4 (aX k) k (aT k)) :
    Calls Try.prog 13 #[.pointer (some ⟨gt, 0, none⟩)] w fun e w' => e = .returned (.bool true) ∧ M14 w' gt gr gc gl kc ex 4 (aX (k + 1)) (k + 1) (aT (k + 1)) ∧ Mv [gc, gl, gt] w w' := by
  have hw := M.task
  have hs : (aT k).steps < 900000 := by show k < _; omega
  have HM := M.stepped (by show k < _; omega)
  have hv : Mv [gc, gl, gt] w (w.setCell ⟨gt, 9, none⟩ (.int .i64 (((aT k).steps : Int) + 1))) := (Mv.refl _ _).set _ _ (by simp)
  obtain rfl | rfl | rfl | rfl : k = 0 ∨ k = 1 ∨ k = 2 ∨ k = 3 := by omega
  · refine mstep_putHead hw rfl hs (R := fun w' => M14 w' gt gr gc gl kc ex 4 (aX (0 + 1)) (0 + 1) (aT (0 + 1)) ∧ Mv [gc, gl, gt] w w') ((putHead_any HM (by omega) (by simp [aX])).mono ?_)
    rintro e w' ⟨rfl, h1, h2⟩
    exact ⟨rfl, h1, hv.trans h2⟩
  · refine mstep_putTail hw rfl hs (R := fun w' => M14 w' gt gr gc gl kc ex 4 (aX (1 + 1)) (1 + 1) (aT (1 + 1)) ∧ Mv [gc, gl, gt] w w') ((putTail_any HM (by omega) (by simp [aX])).mono ?_)
    rintro e w' ⟨rfl, h1, h2⟩
    exact ⟨rfl, h1, hv.trans h2⟩
  · refine mstep_putCell hw rfl hs (R := fun w' => M14 w' gt gr gc gl kc ex 4 (aX (2 + 1)) (2 + 1) (aT (2 + 1)) ∧ Mv [gc, gl, gt] w w') ((putCell_any HM (by omega)).mono ?_)
    rintro e w' ⟨rfl, h1, h2⟩
    exact ⟨rfl, h1, hv.trans h2⟩
  · refine mstep_putDone hw rfl hs (R := fun w' => M14 w' gt gr gc gl kc ex 4 (aX (3 + 1)) (3 + 1) (aT (3 + 1)) ∧ Mv [gc, gl, gt] w w') ((putDone_any HM (by omega)).mono ?_)
    rintro e w' ⟨rfl, h1, h2⟩
    exact ⟨rfl, h1, hv.trans h2⟩
theorem alive14 (w : World) : Calls Try.prog 16 #[] w fun e w' => e = .returned (.bool true) ∧ Below w.heap.size w w' := by
  have HC := Lib.hid (show Calls Try.prog 6 #[.int .i64 7] w _ from cnew_any 7 (by omega) w)
  obtain ⟨m, HMM⟩ : ∃ m, Hid (m = w.heap.size) := ⟨_, Lib.hid rfl⟩
  rw [← HMM.out] at HC ⊢
  go_enter Try.func16, Try.ntmps16
  go_wp2_with (first | (go_at_call 6; refine HC.out.mono ?_; rintro e w1 ⟨rfl, hC, hB⟩))
  have HN := Lib.hid (show Calls Try.prog 7 #[.pointer (some ⟨m + 1, 0, none⟩), .int .i64 4] w1 _ from mnew_any (some ⟨m + 1, 0, none⟩) 7 4 w1 (by simpa using clen_any hC) (by unfold Fits; decide))
  have HC1 := Lib.hid hC
  have HB1 := Lib.hid hB
  clear hC hB
  go_wp2_with fail
  refine HN.out.mono ?_
  rintro e w2 ⟨rfl, hw2⟩
  obtain ⟨gr, HG⟩ : ∃ gr, Hid (gr = w1.heap.size) := ⟨_, Lib.hid rfl⟩
  rw [← HG.out]
  have hlt1 := HC1.out.head.lt
  have hlt2 := HC1.out.row.lt
  have hbw : Below w1.heap.size w1 w2 := by rw [hw2]; exact (Below.refl _ w1).alloc (Nat.le_refl _) _
  have HB14 := Lib.hid (show B14 w2 gr (m + 1) m 7 [] 4 (List.replicate 7 0) 0 from ⟨HC1.out.below hbw, by rw [hw2, HG.out]; exact Blk.new _ _ _, ⟨by have := HG.out; omega, by have := HG.out; omega⟩, by simp, by omega⟩)
  have HB2 := Lib.hid (show Below m w w2 from HB1.out.trans (hbw.mono (by omega)))
  have HGL := Lib.hid (show m < gr from by have := HG.out; omega)
  clear hw2 hbw hlt1 hlt2 HG HN HC HC1 HB1
  have HP := Lib.hid (put_any HB14.out 5 false)
  go_wp2_with (go_at_call 9; refine HP.out.mono ?_; rintro e w3 ⟨rfl, hM3, hB3⟩)
  obtain ⟨gt, HT⟩ : ∃ gt, Hid (gt = w2.heap.size) := ⟨_, Lib.hid rfl⟩
  rw [← HT.out] at hM3 hB3 ⊢
  have HI := Lib.hid (show M14 w3 gt gr (m + 1) m 7 [] 4 (aX 0) 0 (aT 0) from hM3)
  have HTL := Lib.hid (show m < gt from by have := HT.out; have := HB14.out.ring.lt; have := HGL.out; omega)
  have HB3 := Lib.hid (show Below m w w3 from HB2.out.trans (hB3.mono (by have := HTL.out; omega)))
  clear hM3 hB3 HP HB14 HB2 HT
  go_wp2_with fail
  go_loopw [3] (fun vi wr => ∃ k : Nat, k ≤ 4 ∧ vi = .int .i64 k ∧ Hid (M14 wr gt gr (m + 1) m 7 [] 4 (aX k) k (aT k)) ∧ Hid (Below m w wr)) (fun vi _ => 4 - (intOf vi).toNat)
  case atStart => exact ⟨0, by omega, rfl, HI, HB3⟩
  case round =>
    rcases hrel with ⟨k, hk, rfl, HK, HB⟩
    by_cases hlt : k < 4
    · have HS := Lib.hid (alive_step k hlt HK.out)
      go_wp2_with (go_at_call 13; refine HS.out.mono ?_; rintro e w4 ⟨rfl, hM4, hV4⟩)
      refine ⟨⟨k + 1, by omega, by go_num, hM4, HB.out.trans (hV4.low (by have := HK.out.task.lt; have := HTL.out; omega) (by have := HTL.out; intro q hq; simp at hq; omega))⟩, ?_⟩
      simp [intOf]; omega
    · obtain rfl : k = 4 := by omega
      have HS := Lib.hid (mstep_done HK.out.task rfl)
      have HD := Lib.hid (mdone_any HK.out.task)
      have HST := Lib.hid (msteps_any HK.out.task)
      have HGT := Lib.hid (mgot_none HK.out.task (.inl rfl))
      have e4 : ((aT 4).steps : Int) = 4 := rfl
      have e5 : (aT 4).d.isNone = true := rfl
      rw [e4] at HST
      rw [e5] at HD
      clear e4 e5
      go_wp2_with (first | (go_at_call 13; refine HS.out.mono ?_; rintro e w4 ⟨rfl, rfl⟩) | (go_at_call 10; refine HD.out.mono ?_; rintro e w4 ⟨rfl, rfl⟩) | (go_at_call 15; refine HST.out.mono ?_; rintro e w4 ⟨rfl, rfl⟩) | (go_at_call 14; refine HGT.out.mono ?_; rintro e w4 ⟨rfl, rfl⟩))
      go_ret
      exact ⟨rfl, HB.out⟩
end Go.Proofs.Ythnhjhlpimgkiaa

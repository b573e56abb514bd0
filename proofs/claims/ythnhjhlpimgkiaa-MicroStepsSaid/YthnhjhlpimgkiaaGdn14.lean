/-
  Chapter 14: getDone.
-/
import Derived.Test.YthnhjhlpimgkiaaNxt14
namespace Go.Proofs.Ythnhjhlpimgkiaa
open Go.RowKit
set_option maxHeartbeats 1000000 in
theorem getDone_any {w : World} {gt gr gc gl kc size cnt : Nat} {ex : List Value} {xs : List Int} {T : Tk} (M : M14 w gt gr gc gl kc ex size xs cnt T) (hb : cnt < 899999) (h0 : 0 < xs.length) :
    Calls Try.prog 71 #[.pointer (some ⟨gt, 0, none⟩)] w fun e w' => e = .returned (.tuple #[]) ∧ Mv [gc, gl, gt] w w' ∧ (if xs[0] = T.head then ∃ v, GotIs w w' v [T.old] ∧ M14 w' gt gr gc gl kc ex size (xs.set 0 (u ((T.head : Int) + 1))) (cnt + 1) { T with d := none, got := v } else M14 w' gt gr gc gl kc ex size xs (cnt + 1) { T with d := some 45 }) := by
  have HS := move_any M hb h0 1
  rw [show ((1 : Nat) : Int) = 1 from rfl] at HS
  by_cases hx : xs[0] = (T.head : Int)
  · simp only [hx, decide_true] at HS ⊢
    obtain ⟨ys, HY⟩ : ∃ ys : List Int, Hid (ys = xs.set 0 (u ((T.head : Int) + 1))) := ⟨_, Lib.hid rfl⟩
    rw [← HY.out] at HS ⊢
    have HS := Lib.hid HS
    clear M hx h0 HY
    go_enter Try.func71, Try.ntmps71
    go_wp2_with fail
    refine HS.out.mono ?_
    rintro e w2 ⟨rfl, hM, hV⟩
    have HM2 := Lib.hid hM
    have HV2 := Lib.hid hV
    obtain ⟨-, -, -, k3, -⟩ := ten_ HM2.out.task
    clear hM hV
    obtain ⟨w3, HW3⟩ : ∃ w3, Hid (w3 = w2.alloc (.cells #[.int .i64 T.old] 2)) := ⟨_, Lib.hid rfl⟩
    have hb3 : Below w2.heap.size w2 w3 := by rw [HW3.out]; exact (Below.refl _ w2).alloc (Nat.le_refl _) _
    have HB3 := Lib.hid (show Blk w3 w2.heap.size 2 #[.int .i64 T.old] by rw [HW3.out]; exact Blk.new _ _ _)
    have HV3 := Lib.hid (show Mv [gc, gl, gt] w w3 from (HV2.out.mono (by intro k hk _; simp at hk ⊢; omega)).trans (.of_below hb3 (Nat.le_refl _)))
    have HE := Lib.hid (mend_nil (HM2.out.step hb3) (some ⟨w2.heap.size, 0, none⟩) 1 1)
    have HLT := Lib.hid HM2.out.task.lt
    have HSZ := Lib.hid HV2.out.size
    clear hb3
    go_wp2_with (rw [← HW3.out]; go_at_call 27; refine HE.out.mono ?_; rintro e w4 ⟨rfl, hM4, hV4⟩)
    refine bodyPost_ret (results_none rfl _ _ _) rfl ?_
    exact ⟨rfl, HV3.out.trans (hV4.mono (by simp)), _, one_own (hV4.blk HB3.out (by have := HLT.out; simp; omega)) HSZ.out, hM4⟩
  · have hxd : decide (xs[0] = (T.head : Int)) = false := by simpa using hx
    simp only [if_neg hx, hxd] at HS ⊢
    have HS := Lib.hid HS
    clear M hx hxd h0
    go_enter Try.func71, Try.ntmps71
    go_wp2_with fail
    refine HS.out.mono ?_
    rintro e w2 ⟨rfl, hM, hV⟩
    have HM2 := Lib.hid hM
    have HV2 := Lib.hid hV
    obtain ⟨-, k1, -⟩ := ten_ HM2.out.task
    have f1 := HM2.out.task.frozen 1
    clear hM hV
    go_wp2_with fail
    go_end0
    exact ⟨rfl, (HV2.out.mono (by intro k hk _; simp at hk ⊢; omega)).set _ _ (by simp), HM2.out.setT 1 _ rfl HM2.out.ok⟩
end Go.Proofs.Ythnhjhlpimgkiaa

/-
  Chapter 14: grabDone.
-/
import Derived.Test.YthnhjhlpimgkiaaSpl14
namespace Go.Proofs.Ythnhjhlpimgkiaa
open Go.RowKit
set_option maxHeartbeats 1000000 in
theorem grabDone_any {w : World} {gt gr gc gl kc size cnt : Nat} {ex : List Value} {xs : List Int} {T : Tk} (M : M14 w gt gr gc gl kc ex size xs cnt T) (hb : cnt < 899999) (h0 : 0 < xs.length) (A : Option Addr) (n c : Nat) (hbuf : T.buf = .slice A n c) :
    Calls Try.prog 69 #[.pointer (some ⟨gt, 0, none⟩)] w fun e w' => e = .returned (.tuple #[]) ∧ Mv [gc, gl, gt] w w' ∧ (if xs[0] = T.head then M14 w' gt gr gc gl kc ex size (xs.set 0 (u ((T.head : Int) + T.many))) (cnt + 1) { T with d := none, got := .slice A n c } else M14 w' gt gr gc gl kc ex size xs (cnt + 1) { T with d := some 30 }) := by
  have HS := move_any M hb h0 T.many
  obtain ⟨-, -, -, -, -, -, c6, -, -, -⟩ := ten_ M.task
  by_cases hx : xs[0] = (T.head : Int)
  · simp only [hx, decide_true] at HS ⊢
    obtain ⟨ys, HY⟩ : ∃ ys : List Int, Hid (ys = xs.set 0 (u ((T.head : Int) + T.many))) := ⟨_, Lib.hid rfl⟩
    rw [← HY.out] at HS ⊢
    have HS := Lib.hid HS
    clear M hx h0 HY
    go_enter Try.func69, Try.ntmps69
    go_wp2_with fail
    refine HS.out.mono ?_
    rintro e w2 ⟨rfl, hM, hV⟩
    have HM2 := Lib.hid hM
    have HV2 := Lib.hid (show Mv [gc, gl, gt] w w2 from hV.mono (by intro k hk _; simp at hk ⊢; omega))
    obtain ⟨-, -, -, -, -, -, -, k7, -⟩ := ten_ HM2.out.task
    rw [hbuf] at k7
    have HE := Lib.hid (mend_nil HM2.out A n c)
    clear hM hV hbuf c6
    go_wp2_with (go_at_call 27; refine HE.out.mono ?_; rintro e w4 ⟨rfl, hM4, hV4⟩)
    refine bodyPost_ret (results_none rfl _ _ _) rfl ?_
    exact ⟨rfl, HV2.out.trans (hV4.mono (by simp)), hM4⟩
  · have hxd : decide (xs[0] = (T.head : Int)) = false := by simpa using hx
    simp only [if_neg hx, hxd] at HS ⊢
    have HS := Lib.hid HS
    clear M hx hxd h0 hbuf
    go_enter Try.func69, Try.ntmps69
    go_wp2_with fail
    refine HS.out.mono ?_
    rintro e w2 ⟨rfl, hM, hV⟩
    have HM2 := Lib.hid hM
    have HV2 := Lib.hid hV
    obtain ⟨-, k1, -⟩ := ten_ HM2.out.task
    have f1 := HM2.out.task.frozen 1
    clear hM hV c6
    go_wp2_with fail
    go_end0
    exact ⟨rfl, (HV2.out.mono (by intro k hk _; simp at hk ⊢; omega)).set _ _ (by simp), HM2.out.setT 1 _ rfl HM2.out.ok⟩
end Go.Proofs.Ythnhjhlpimgkiaa

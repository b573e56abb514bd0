/-
  Chapter 14: accesses that load (printed by wip/genacc.py).
-/
import Derived.Test.YthnhjhlpimgkiaaPuc14
namespace Go.Proofs.Ythnhjhlpimgkiaa
open Go.RowKit
theorem putLoad_any {w : World} {gt gr gc gl kc size cnt : Nat} {ex : List Value} {xs : List Int} {T : Tk} (M : M14 w gt gr gc gl kc ex size xs cnt T) (hb : cnt < 899999) (h0 : 2 < xs.length) :
    Calls Try.prog 28 #[.pointer (some ⟨gt, 0, none⟩)] w fun e w' => e = .returned (.tuple #[]) ∧ M14 w' gt gr gc gl kc ex size xs (cnt + 1) { T with old := xs[2], d := some 43 } ∧ Mv [gc, gl, gt] w w' := by
  obtain ⟨x, HX⟩ : ∃ x, Hid (x = xs[2]) := ⟨_, Lib.hid rfl⟩
  have HL := load_any M.cells 2 h0 (by omega)
  rw [← HX.out] at HL ⊢
  have HL := Lib.hid HL
  have HM := Lib.hid M
  obtain ⟨q0, -⟩ := ten_ M.task
  have hr0 : w.cell? ⟨gr, 0, none⟩ = some (.pointer (some ⟨gc, 0, none⟩)) := (M.ring.cell 0).trans rfl
  clear M
  go_enter Try.func28, Try.ntmps28
  go_wp2_with (go_at_call 40; refine HL.out.mono ?_; rintro e w1 ⟨rfl, hC, hV⟩; have HM1 := Lib.hid (HM.out.load hC (hV.mono (by simp)) rfl hb); have HV := Lib.hid (show Mv [gc, gl, gt] w w1 from hV.mono (by simp)); obtain ⟨-, k1, -, k3, -⟩ := ten_ HM1.out.task; have f1 := HM1.out.task.frozen 1; have f3 := HM1.out.task.frozen 3; have f8 := HM1.out.task.frozen 8; clear hC hV)
  go_end0
  have a1 := HM1.out.setT (T' := { T with old := x }) 3 _ rfl HM1.out.ok
  exact ⟨rfl, a1.setT 1 _ rfl a1.ok, (HV.out.set _ _ (by simp)).set _ _ (by simp)⟩
theorem getLoad_any {w : World} {gt gr gc gl kc size cnt : Nat} {ex : List Value} {xs : List Int} {T : Tk} (M : M14 w gt gr gc gl kc ex size xs cnt T) (hb : cnt < 899999) (h0 : 2 < xs.length) :
    Calls Try.prog 29 #[.pointer (some ⟨gt, 0, none⟩)] w fun e w' => e = .returned (.tuple #[]) ∧ M14 w' gt gr gc gl kc ex size xs (cnt + 1) { T with old := xs[2], d := some (if xs[2] = 0 then 45 else 44) } ∧ Mv [gc, gl, gt] w w' := by
  obtain ⟨x, HX⟩ : ∃ x, Hid (x = xs[2]) := ⟨_, Lib.hid rfl⟩
  have HL := load_any M.cells 2 h0 (by omega)
  rw [← HX.out] at HL ⊢
  have HL := Lib.hid HL
  have HM := Lib.hid M
  obtain ⟨q0, -⟩ := ten_ M.task
  have hr0 : w.cell? ⟨gr, 0, none⟩ = some (.pointer (some ⟨gc, 0, none⟩)) := (M.ring.cell 0).trans rfl
  clear M
  by_cases hx : x = 0
  · subst hx
    rw [if_pos rfl]
    go_enter Try.func29, Try.ntmps29
    go_wp2_with (go_at_call 40; refine HL.out.mono ?_; rintro e w1 ⟨rfl, hC, hV⟩; have HM1 := Lib.hid (HM.out.load hC (hV.mono (by simp)) rfl hb); have HV := Lib.hid (show Mv [gc, gl, gt] w w1 from hV.mono (by simp)); obtain ⟨-, k1, -, k3, -⟩ := ten_ HM1.out.task; have f1 := HM1.out.task.frozen 1; have f3 := HM1.out.task.frozen 3; have f8 := HM1.out.task.frozen 8; clear hC hV)
    go_end0
    have a1 := HM1.out.setT (T' := { T with old := 0 }) 3 _ rfl HM1.out.ok
    have a2 := a1.setT (T' := { T with old := 0, d := some 44 }) 1 (doV (some 44)) rfl a1.ok
    exact ⟨rfl, a2.setT 1 _ rfl a2.ok, ((HV.out.set _ _ (by simp)).set _ _ (by simp)).set _ _ (by simp)⟩
  · have hxe : (x == 0) = false := by simpa using hx
    rw [if_neg hx]
    go_enter Try.func29, Try.ntmps29
    go_wp2_with (go_at_call 40; refine HL.out.mono ?_; rintro e w1 ⟨rfl, hC, hV⟩; have HM1 := Lib.hid (HM.out.load hC (hV.mono (by simp)) rfl hb); have HV := Lib.hid (show Mv [gc, gl, gt] w w1 from hV.mono (by simp)); obtain ⟨-, k1, -, k3, -⟩ := ten_ HM1.out.task; have f1 := HM1.out.task.frozen 1; have f3 := HM1.out.task.frozen 3; have f8 := HM1.out.task.frozen 8; clear hC hV)
    go_end0
    have a1 := HM1.out.setT (T' := { T with old := x }) 3 _ rfl HM1.out.ok
    exact ⟨rfl, a1.setT 1 _ rfl a1.ok, (HV.out.set _ _ (by simp)).set _ _ (by simp)⟩
theorem grabLoad_any {w : World} {gt gr gc gl kc size cnt : Nat} {ex : List Value} {xs : List Int} {T : Tk} (M : M14 w gt gr gc gl kc ex size xs cnt T) (hb : cnt < 899999) (h0 : 2 < xs.length) :
    Calls Try.prog 59 #[.pointer (some ⟨gt, 0, none⟩)] w fun e w' => e = .returned (.tuple #[]) ∧ M14 w' gt gr gc gl kc ex size xs (cnt + 1) (if xs[2] = 0 then { T with old := xs[2], d := none, got := .slice none 0 0 } else { T with old := xs[2], d := some 68 }) ∧ Mv [gc, gl, gt] w w' := by
  obtain ⟨x, HX⟩ : ∃ x, Hid (x = xs[2]) := ⟨_, Lib.hid rfl⟩
  have HL := load_any M.cells 2 h0 (by omega)
  rw [← HX.out] at HL ⊢
  have HL := Lib.hid HL
  have HM := Lib.hid M
  obtain ⟨q0, -⟩ := ten_ M.task
  have hr0 : w.cell? ⟨gr, 0, none⟩ = some (.pointer (some ⟨gc, 0, none⟩)) := (M.ring.cell 0).trans rfl
  clear M
  by_cases hx : x = 0
  · subst hx
    rw [if_pos rfl]
    go_enter Try.func59, Try.ntmps59
    go_wp2_with (go_at_call 40; refine HL.out.mono ?_; rintro e w1 ⟨rfl, hC, hV⟩; have HM1 := Lib.hid (HM.out.load hC (hV.mono (by simp)) rfl hb); have HV := Lib.hid (show Mv [gc, gl, gt] w w1 from hV.mono (by simp)); obtain ⟨-, k1, -, k3, -⟩ := ten_ HM1.out.task; have f1 := HM1.out.task.frozen 1; have f3 := HM1.out.task.frozen 3; have f8 := HM1.out.task.frozen 8; clear hC hV)
    have a1 := HM1.out.setT (T' := { T with old := 0 }) 3 (.int .i64 0) rfl HM1.out.ok
    have a2 := a1.setT (T' := { T with old := 0, d := some 68 }) 1 (doV (some 68)) rfl a1.ok
    have HE := Lib.hid (mend_nil a2 none 0 0)
    refine HE.out.mono ?_
    rintro e w3 ⟨rfl, hM3, hV3⟩
    go_wp2_with fail
    go_end0
    exact ⟨rfl, hM3, ((HV.out.set _ _ (by simp)).set _ _ (by simp)).trans (hV3.mono (by simp))⟩
  · have hxe : (x == 0) = false := by simpa using hx
    rw [if_neg hx]
    go_enter Try.func59, Try.ntmps59
    go_wp2_with (go_at_call 40; refine HL.out.mono ?_; rintro e w1 ⟨rfl, hC, hV⟩; have HM1 := Lib.hid (HM.out.load hC (hV.mono (by simp)) rfl hb); have HV := Lib.hid (show Mv [gc, gl, gt] w w1 from hV.mono (by simp)); obtain ⟨-, k1, -, k3, -⟩ := ten_ HM1.out.task; have f1 := HM1.out.task.frozen 1; have f3 := HM1.out.task.frozen 3; have f8 := HM1.out.task.frozen 8; clear hC hV)
    go_end0
    have a1 := HM1.out.setT (T' := { T with old := x }) 3 _ rfl HM1.out.ok
    exact ⟨rfl, a1.setT 1 _ rfl a1.ok, (HV.out.set _ _ (by simp)).set _ _ (by simp)⟩
theorem getHead_any {w : World} {gt gr gc gl kc size cnt : Nat} {ex : List Value} {xs : List Int} {T : Tk} (M : M14 w gt gr gc gl kc ex size xs cnt T) (hb : cnt < 899999) (h0 : 0 < xs.length) :
    Calls Try.prog 45 #[.pointer (some ⟨gt, 0, none⟩)] w fun e w' => e = .returned (.tuple #[]) ∧ M14 w' gt gr gc gl kc ex size xs (cnt + 1) { T with head := u xs[0], d := some 58 } ∧ Mv [gc, gl, gt] w w' := by
  have HL := Lib.hid (lhead_any M hb h0)
  clear M
  go_enter Try.func45, Try.ntmps45
  go_wp2_with (go_at_call 41; refine HL.out.mono ?_; rintro e w1 ⟨rfl, hM1, hV⟩; have HM1 := Lib.hid hM1; have HV := Lib.hid hV; obtain ⟨-, k1, -⟩ := ten_ HM1.out.task; have f1 := HM1.out.task.frozen 1; clear hM1 hV)
  go_end0
  exact ⟨rfl, HM1.out.setT 1 _ rfl HM1.out.ok, HV.out.set _ _ (by simp)⟩
theorem grabHead_any {w : World} {gt gr gc gl kc size cnt : Nat} {ex : List Value} {xs : List Int} {T : Tk} (M : M14 w gt gr gc gl kc ex size xs cnt T) (hb : cnt < 899999) (h0 : 0 < xs.length) :
    Calls Try.prog 30 #[.pointer (some ⟨gt, 0, none⟩)] w fun e w' => e = .returned (.tuple #[]) ∧ M14 w' gt gr gc gl kc ex size xs (cnt + 1) { T with head := u xs[0], d := some 46 } ∧ Mv [gc, gl, gt] w w' := by
  have HL := Lib.hid (lhead_any M hb h0)
  clear M
  go_enter Try.func30, Try.ntmps30
  go_wp2_with (go_at_call 41; refine HL.out.mono ?_; rintro e w1 ⟨rfl, hM1, hV⟩; have HM1 := Lib.hid hM1; have HV := Lib.hid hV; obtain ⟨-, k1, -⟩ := ten_ HM1.out.task; have f1 := HM1.out.task.frozen 1; clear hM1 hV)
  go_end0
  exact ⟨rfl, HM1.out.setT 1 _ rfl HM1.out.ok, HV.out.set _ _ (by simp)⟩
end Go.Proofs.Ythnhjhlpimgkiaa

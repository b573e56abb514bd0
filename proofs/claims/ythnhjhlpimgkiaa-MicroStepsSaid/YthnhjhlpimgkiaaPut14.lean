/-
  Chapter 14: Put's accesses, those without a buffer.
-/
import Derived.Test.YthnhjhlpimgkiaaLdh14
import Derived.Deep.QuietTactic
import Derived.BigQuiet
namespace Go.Proofs.Ythnhjhlpimgkiaa
open Go.RowKit
theorem below_drewN (B : Nat) (w : World) (n : Nat) : Below B w (w.drewN n) := ⟨rfl, rfl, rfl, Nat.le_refl _, fun _ _ => rfl⟩
theorem putHead_any {w : World} {gt gr gc gl kc size cnt : Nat} {ex : List Value} {xs : List Int} {T : Tk} (M : M14 w gt gr gc gl kc ex size xs cnt T) (hb : cnt < 899999) (h0 : 0 < xs.length) :
    Calls Try.prog 26 #[.pointer (some ⟨gt, 0, none⟩)] w fun e w' => e = .returned (.tuple #[]) ∧ M14 w' gt gr gc gl kc ex size xs (cnt + 1) { T with head := u xs[0], d := some 42 } ∧ Mv [gc, gl, gt] w w' := by
  have HL := Lib.hid (lhead_any M hb h0)
  clear M
  go_enter Try.func26, Try.ntmps26
  go_wp2_with (go_at_call 41; refine HL.out.mono ?_; rintro e w1 ⟨rfl, hM1, hV⟩; have HM1 := Lib.hid hM1; have HV := Lib.hid hV; obtain ⟨-, k1, -⟩ := ten_ HM1.out.task; have f1 := HM1.out.task.frozen 1; clear hM1 hV)
  go_end0
  exact ⟨rfl, HM1.out.setT 1 _ rfl HM1.out.ok, HV.out.set _ _ (by simp)⟩
theorem putTail_any {w : World} {gt gr gc gl kc size cnt : Nat} {ex : List Value} {xs : List Int} {T : Tk} (M : M14 w gt gr gc gl kc ex size xs cnt T) (hb : cnt < 899999) (h0 : 1 < xs.length) :
    Calls Try.prog 42 #[.pointer (some ⟨gt, 0, none⟩)] w fun e w' => e = .returned (.tuple #[]) ∧ M14 w' gt gr gc gl kc ex size xs (cnt + 1) (if u ((u xs[1] : Int) - T.head) < size then { T with tail := u xs[1], d := some 55 } else { T with tail := u xs[1], many := u ((u xs[1] : Int) - T.head) / 2, buf := .slice none 0 0, d := some 56 }) ∧ Mv [gc, gl, gt] w w' := by
  have HL := Lib.hid (ltail_any M hb h0)
  have hsz : size ≤ 8 := by have := M.fits.1; omega
  clear M
  obtain ⟨n, HN⟩ : ∃ n, Hid (n = u ((u xs[1] : Int) - T.head)) := ⟨_, Lib.hid rfl⟩
  rw [← HN.out]
  have hn : n < 4294967296 := by rw [HN.out]; exact u_lt _
  by_cases hlt : n < size
  · rw [if_pos hlt]
    have hge : ¬ (n : Int) ≥ size := by omega
    go_enter Try.func42, Try.ntmps42
    go_wp2_with (go_at_call 54; refine HL.out.mono ?_; rintro e w1 ⟨rfl, hM1, hV⟩; have HM1 := Lib.hid hM1; have HV := Lib.hid hV; obtain ⟨-, k1, -⟩ := ten_ HM1.out.task; have f1 := HM1.out.task.frozen 1; clear hM1 hV)
    obtain ⟨w2, HW2⟩ : ∃ w2, Hid (w2 = w1.setCell ⟨gt, 1, none⟩ (.func (.func 55) #[] #[])) := ⟨_, Lib.hid rfl⟩
    rw [← HW2.out]
    have HM2 := Lib.hid (show M14 w2 gt gr gc gl kc ex size xs (cnt + 1) { T with tail := u xs[1], d := some 55 } by rw [HW2.out]; exact HM1.out.setT 1 _ rfl HM1.out.ok)
    have HV2 := Lib.hid (show Mv [gc, gl, gt] w w2 by rw [HW2.out]; exact HV.out.set _ _ (by simp))
    clear k1 f1 HM1 HV HW2 HL
    obtain ⟨c0, c1, -, -, c4, c5, c6, c7, -, -⟩ := ten_ HM2.out.task
    simp only [doV] at c1
    have f1 := HM2.out.task.frozen 1
    have f6 := HM2.out.task.frozen 6
    have f7 := HM2.out.task.frozen 7
    have r1 : w2.cell? ⟨gr, 1, none⟩ = some (.int .i64 size) := (HM2.out.ring.cell 1).trans rfl
    have hw1 : IntKind.u32.wrap ((u xs[1] : Int) - T.head) = n := by rw [HN.out]; exact wrap_u _
    have hw2 : ((u xs[1] : Int) - T.head) % 4294967296 = n := by rw [HN.out]; exact mod_u _
    go_quiet (fail)
    go_wp2
    go_end0
    exact ⟨rfl, HM2.out.step (below_drewN _ _ _), HV2.out.trans (.of_below (below_drewN _ _ _) (Nat.le_refl _))⟩
  · rw [if_neg hlt]
    have hge : (n : Int) ≥ size := by omega
    go_enter Try.func42, Try.ntmps42
    go_wp2_with (go_at_call 54; refine HL.out.mono ?_; rintro e w1 ⟨rfl, hM1, hV⟩; have HM1 := Lib.hid hM1; have HV := Lib.hid hV; obtain ⟨-, k1, -⟩ := ten_ HM1.out.task; have f1 := HM1.out.task.frozen 1; clear hM1 hV)
    obtain ⟨w2, HW2⟩ : ∃ w2, Hid (w2 = w1.setCell ⟨gt, 1, none⟩ (.func (.func 55) #[] #[])) := ⟨_, Lib.hid rfl⟩
    rw [← HW2.out]
    have HM2 := Lib.hid (show M14 w2 gt gr gc gl kc ex size xs (cnt + 1) { T with tail := u xs[1], d := some 55 } by rw [HW2.out]; exact HM1.out.setT 1 _ rfl HM1.out.ok)
    have HV2 := Lib.hid (show Mv [gc, gl, gt] w w2 by rw [HW2.out]; exact HV.out.set _ _ (by simp))
    clear k1 f1 HM1 HV HW2 HL
    obtain ⟨c0, c1, -, -, c4, c5, c6, c7, -, -⟩ := ten_ HM2.out.task
    simp only [doV] at c1
    have f1 := HM2.out.task.frozen 1
    have f6 := HM2.out.task.frozen 6
    have f7 := HM2.out.task.frozen 7
    have r1 : w2.cell? ⟨gr, 1, none⟩ = some (.int .i64 size) := (HM2.out.ring.cell 1).trans rfl
    have hw1 : IntKind.u32.wrap ((u xs[1] : Int) - T.head) = n := by rw [HN.out]; exact wrap_u _
    have hw2 : ((u xs[1] : Int) - T.head) % 4294967296 = n := by rw [HN.out]; exact mod_u _
    go_quiet (fail)
    go_wp2
    go_end0
    have a0 := HM2.out.step (below_drewN w2.heap.size w2 nq)
    have a1 := a0.setT (T' := { T with tail := u xs[1], many := n / 2, d := some 55 }) 6 (.int .u32 ((n : Int) / 2)) (by simp [Tk.cells]) ⟨a0.ok.1, a0.ok.2.1, a0.ok.2.2.1, by show n / 2 < _; omega⟩
    have a2 := a1.setT (T' := { T with tail := u xs[1], many := n / 2, buf := .slice none 0 0, d := some 55 }) 7 (.slice none 0 0) rfl a1.ok
    have a3 := a2.setT (T' := { T with tail := u xs[1], many := n / 2, buf := .slice none 0 0, d := some 56 }) 1 (doV (some 56)) rfl a2.ok
    refine ⟨rfl, a3, ?_⟩
    exact (((HV2.out.trans (.of_below (below_drewN _ _ _) (Nat.le_refl _))).set _ _ (by simp)).set _ _ (by simp)).set _ _ (by simp)
end Go.Proofs.Ythnhjhlpimgkiaa

/-
  Chapter 14: grabTail.
-/
import Derived.Test.YthnhjhlpimgkiaaGdn14
namespace Go.Proofs.Ythnhjhlpimgkiaa
open Go.RowKit
set_option maxHeartbeats 1000000 in
theorem grabTail_any {w : World} {gt gr gc gl kc size cnt : Nat} {ex : List Value} {xs : List Int} {T : Tk} (M : M14 w gt gr gc gl kc ex size xs cnt T) (hb : cnt < 899999) (h0 : 1 < xs.length) (n m : Nat) (hn : n = u ((u xs[1] : Int) - T.head)) (hm : m = n - n / 2) :
    Calls Try.prog 46 #[.pointer (some ⟨gt, 0, none⟩)] w fun e w' => e = .returned (.tuple #[]) ∧ M14 w' gt gr gc gl kc ex size xs (cnt + 1) { T with tail := u xs[1], many := m, buf := .slice none 0 0, d := some (if n = 0 then 59 else if size / 2 < m then 30 else 60) } ∧ Mv [gc, gl, gt] w w' := by
  have HL := Lib.hid (ltail_any M hb h0)
  have hsz : size ≤ 8 := by have := M.fits.1; omega
  clear M
  have hw1 : IntKind.u32.wrap ((u xs[1] : Int) - T.head) = n := by rw [hn]; exact wrap_u _
  have hw2 : ((u xs[1] : Int) - T.head) % 4294967296 = n := by rw [hn]; exact mod_u _
  have hlt : n < 4294967296 := by rw [hn]; exact u_lt _
  have hsub : (n : Int) - (n : Int) / 2 = m := by omega
  have hmlt : m ≤ n := by omega
  obtain ⟨hs2, HS2⟩ : ∃ h : Nat, Hid (h = size / 2) := ⟨_, Lib.hid rfl⟩
  have hs3 : (size : Int) / 2 = hs2 := by have := HS2.out; omega
  have hs4 : Int.tdiv (size : Int) 2 = hs2 := by rw [Int.tdiv_eq_ediv_of_nonneg (by omega)]; exact hs3
  have hs5 : hs2 ≤ 4 := by have := HS2.out; omega
  rw [← HS2.out]
  clear hn hm
  by_cases hz : n = 0
  · subst hz
    rw [if_pos rfl]
    have hm0 : m = 0 := by omega
    subst hm0
    go_enter Try.func46, Try.ntmps46
    go_wp2_with (go_at_call 54; refine HL.out.mono ?_; rintro e w2 ⟨rfl, hM1, hV⟩; have HM2 := Lib.hid hM1; have HV2 := Lib.hid hV; clear hM1 hV)
    obtain ⟨c0, c1, -, -, c4, c5, c6, c7, -, -⟩ := ten_ HM2.out.task
    simp only at c0 c1 c4 c5 c6 c7
    have f1 := HM2.out.task.frozen 1
    have f6 := HM2.out.task.frozen 6
    have f7 := HM2.out.task.frozen 7
    have r1 : w2.cell? ⟨gr, 1, none⟩ = some (.int .i64 size) := (HM2.out.ring.cell 1).trans rfl
    go_quiet (fail)
    go_wp2_with fail
    go_end0
    have a0 := HM2.out.step (below_drewN w2.heap.size w2 nq)
    have a1 := a0.setT (T' := { T with tail := u xs[1], many := 0 }) 6 (.int .u32 ((0 : Nat) : Int)) rfl ⟨a0.ok.1, a0.ok.2.1, a0.ok.2.2.1, by show 0 < _; omega⟩
    have a2 := a1.setT (T' := { T with tail := u xs[1], many := 0, buf := .slice none 0 0 }) 7 (.slice none 0 0) rfl a1.ok
    have v2 := ((HV2.out.trans (Mv.of_below (below_drewN w2.heap.size w2 nq) (Nat.le_refl _))).set ⟨gt, 6, none⟩ (.int .u32 ((0 : Nat) : Int)) (by simp)).set ⟨gt, 7, none⟩ (.slice none 0 0) (by simp)
    exact ⟨rfl, a2.setT 1 _ rfl a2.ok, v2.set _ _ (by simp)⟩
  · rw [if_neg hz]
    have hz1 : ((n : Int) == 0) = false := by simp; omega
    by_cases hbig : hs2 < m
    · rw [if_pos hbig]
      have hg : (m : Int) > hs2 := by omega
      go_enter Try.func46, Try.ntmps46
      go_wp2_with (go_at_call 54; refine HL.out.mono ?_; rintro e w2 ⟨rfl, hM1, hV⟩; have HM2 := Lib.hid hM1; have HV2 := Lib.hid hV; clear hM1 hV)
      obtain ⟨c0, c1, -, -, c4, c5, c6, c7, -, -⟩ := ten_ HM2.out.task
      simp only at c0 c1 c4 c5 c6 c7
      have f1 := HM2.out.task.frozen 1
      have f6 := HM2.out.task.frozen 6
      have f7 := HM2.out.task.frozen 7
      have r1 : w2.cell? ⟨gr, 1, none⟩ = some (.int .i64 size) := (HM2.out.ring.cell 1).trans rfl
      go_quiet (fail)
      go_wp2_with fail
      have a0 := HM2.out.step (below_drewN w2.heap.size w2 nq)
      have a1 := a0.setT (T' := { T with tail := u xs[1], many := m }) 6 (.int .u32 ((m : Nat) : Int)) rfl ⟨a0.ok.1, a0.ok.2.1, a0.ok.2.2.1, by show m < _; omega⟩
      have a2 := a1.setT (T' := { T with tail := u xs[1], many := m, buf := .slice none 0 0 }) 7 (.slice none 0 0) rfl a1.ok
      have v2 := ((HV2.out.trans (Mv.of_below (below_drewN w2.heap.size w2 nq) (Nat.le_refl _))).set ⟨gt, 6, none⟩ (.int .u32 ((m : Nat) : Int)) (by simp)).set ⟨gt, 7, none⟩ (.slice none 0 0) (by simp)
      obtain ⟨w3, HW3⟩ : ∃ w3, Hid (w3 = ((w2.drewN nq).setCell ⟨gt, 6, none⟩ (.int .u32 ((m : Nat) : Int))).setCell ⟨gt, 7, none⟩ (.slice none 0 0)) := ⟨_, Lib.hid rfl⟩
      rw [← HW3.out]
      rw [← HW3.out] at a2 v2
      have HM3 := Lib.hid a2
      have HV3 := Lib.hid v2
      clear a0 a1 a2 v2 c0 c1 c4 c5 c6 c7 f1 f6 f7 r1 HM2 HV2 HW3 HL
      obtain ⟨c0, c1, -, -, -, -, c6, -, -, -⟩ := ten_ HM3.out.task
      simp only at c0 c1 c6
      have f1 := HM3.out.task.frozen 1
      have r1 : w3.cell? ⟨gr, 1, none⟩ = some (.int .i64 size) := (HM3.out.ring.cell 1).trans rfl
      go_quiet (fail)
      go_wp2_with fail
      go_end0
      exact ⟨rfl, (HM3.out.step (below_drewN _ _ _)).setT 1 _ rfl HM3.out.ok, (HV3.out.trans (Mv.of_below (below_drewN _ _ _) (Nat.le_refl _))).set _ _ (by simp)⟩
    · rw [if_neg hbig]
      have hg : ¬ (m : Int) > hs2 := by omega
      go_enter Try.func46, Try.ntmps46
      go_wp2_with (go_at_call 54; refine HL.out.mono ?_; rintro e w2 ⟨rfl, hM1, hV⟩; have HM2 := Lib.hid hM1; have HV2 := Lib.hid hV; clear hM1 hV)
      obtain ⟨c0, c1, -, -, c4, c5, c6, c7, -, -⟩ := ten_ HM2.out.task
      simp only at c0 c1 c4 c5 c6 c7
      have f1 := HM2.out.task.frozen 1
      have f6 := HM2.out.task.frozen 6
      have f7 := HM2.out.task.frozen 7
      have r1 : w2.cell? ⟨gr, 1, none⟩ = some (.int .i64 size) := (HM2.out.ring.cell 1).trans rfl
      go_quiet (fail)
      go_wp2_with fail
      have a0 := HM2.out.step (below_drewN w2.heap.size w2 nq)
      have a1 := a0.setT (T' := { T with tail := u xs[1], many := m }) 6 (.int .u32 ((m : Nat) : Int)) rfl ⟨a0.ok.1, a0.ok.2.1, a0.ok.2.2.1, by show m < _; omega⟩
      have a2 := a1.setT (T' := { T with tail := u xs[1], many := m, buf := .slice none 0 0 }) 7 (.slice none 0 0) rfl a1.ok
      have v2 := ((HV2.out.trans (Mv.of_below (below_drewN w2.heap.size w2 nq) (Nat.le_refl _))).set ⟨gt, 6, none⟩ (.int .u32 ((m : Nat) : Int)) (by simp)).set ⟨gt, 7, none⟩ (.slice none 0 0) (by simp)
      obtain ⟨w3, HW3⟩ : ∃ w3, Hid (w3 = ((w2.drewN nq).setCell ⟨gt, 6, none⟩ (.int .u32 ((m : Nat) : Int))).setCell ⟨gt, 7, none⟩ (.slice none 0 0)) := ⟨_, Lib.hid rfl⟩
      rw [← HW3.out]
      rw [← HW3.out] at a2 v2
      have HM3 := Lib.hid a2
      have HV3 := Lib.hid v2
      clear a0 a1 a2 v2 c0 c1 c4 c5 c6 c7 f1 f6 f7 r1 HM2 HV2 HW3 HL
      obtain ⟨c0, c1, -, -, -, -, c6, -, -, -⟩ := ten_ HM3.out.task
      simp only at c0 c1 c6
      have f1 := HM3.out.task.frozen 1
      have r1 : w3.cell? ⟨gr, 1, none⟩ = some (.int .i64 size) := (HM3.out.ring.cell 1).trans rfl
      go_quiet (fail)
      go_wp2_with fail
      go_end0
      exact ⟨rfl, (HM3.out.step (below_drewN _ _ _)).setT 1 _ rfl HM3.out.ok, (HV3.out.trans (Mv.of_below (below_drewN _ _ _) (Nat.le_refl _))).set _ _ (by simp)⟩
end Go.Proofs.Ythnhjhlpimgkiaa

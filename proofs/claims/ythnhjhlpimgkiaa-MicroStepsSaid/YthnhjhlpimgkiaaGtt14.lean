/-
  Chapter 14: getTail, getCell, move.
-/
import Derived.Test.YthnhjhlpimgkiaaPuc14
namespace Go.Proofs.Ythnhjhlpimgkiaa
open Go.RowKit
/-- Only the cells may have changed. -/
def SC (gc gl : Nat) (w w' : World) : Prop := Mv [gc, gl] w w'
theorem SC.cell {gc gl : Nat} {w w' : World} (h : SC gc gl w w') {g : Nat} {t : TypeId} {cs : Array Value} (hb : Blk w g t cs) (h1 : g ≠ gc) (h2 : g ≠ gl) {i : Nat} {v : Value} (hc : w.cell? ⟨g, i, none⟩ = some v) : w'.cell? ⟨g, i, none⟩ = some v := by
  have := (Mv.blk h hb (by simp [h1, h2])).cell i
  rw [this]
  rw [hb.cell i] at hc
  exact hc
theorem getTail_any {w : World} {gt gr gc gl kc size cnt : Nat} {ex : List Value} {xs : List Int} {T : Tk} (M : M14 w gt gr gc gl kc ex size xs cnt T) (hb : cnt < 899999) (h0 : 1 < xs.length) :
    Calls Try.prog 58 #[.pointer (some ⟨gt, 0, none⟩)] w fun e w' => e = .returned (.tuple #[]) ∧ M14 w' gt gr gc gl kc ex size xs (cnt + 1) (if u xs[1] = T.head then { T with tail := u xs[1], d := none, got := .slice none 0 0 } else { T with tail := u xs[1], d := some 67 }) ∧ Mv [gc, gl, gt] w w' := by
  have HL := Lib.hid (ltail_any M hb h0)
  clear M
  obtain ⟨n, HN⟩ : ∃ n, Hid (n = u xs[1]) := ⟨_, Lib.hid rfl⟩
  rw [← HN.out] at HL ⊢
  by_cases heq : n = T.head
  · rw [if_pos heq]
    have he1 : ((n : Int) == T.head) = true := by simp [heq]
    have he2 : decide ((n : Int) = T.head) = true := by simp [heq]
    go_enter Try.func58, Try.ntmps58
    go_wp2_with (go_at_call 54; refine HL.out.mono ?_; rintro e w1 ⟨rfl, hM1, hV⟩; have HM1 := Lib.hid hM1; have HV := Lib.hid hV; obtain ⟨-, k1, -⟩ := ten_ HM1.out.task; have f1 := HM1.out.task.frozen 1; clear hM1 hV)
    obtain ⟨w2, HW2⟩ : ∃ w2, Hid (w2 = w1.setCell ⟨gt, 1, none⟩ (.func (.func 67) #[] #[])) := ⟨_, Lib.hid rfl⟩
    rw [← HW2.out]
    have HM2 := Lib.hid (show M14 w2 gt gr gc gl kc ex size xs (cnt + 1) { T with tail := n, d := some 67 } by rw [HW2.out]; exact HM1.out.setT 1 _ rfl HM1.out.ok)
    have HV2 := Lib.hid (show Mv [gc, gl, gt] w w2 by rw [HW2.out]; exact HV.out.set _ _ (by simp))
    clear k1 f1 HM1 HV HW2 HL
    obtain ⟨-, -, -, -, c4, c5, -, -, -, -⟩ := ten_ HM2.out.task
    simp only at c4 c5
    go_quiet (fail)
    have HE := Lib.hid (mend_nil (HM2.out.step (below_drewN w2.heap.size w2 nq)) none 0 0)
    go_wp2_with (go_at_call 27; refine HE.out.mono ?_; rintro e w3 ⟨rfl, hM3, hV3⟩)
    go_end0
    exact ⟨rfl, hM3, HV2.out.trans ((Mv.of_below (below_drewN _ _ _) (Nat.le_refl _)).trans (hV3.mono (by simp)))⟩
  · rw [if_neg heq]
    have he1 : ((n : Int) == T.head) = false := by simp; omega
    have he2 : decide ((n : Int) = T.head) = false := by simp; omega
    go_enter Try.func58, Try.ntmps58
    go_wp2_with (go_at_call 54; refine HL.out.mono ?_; rintro e w1 ⟨rfl, hM1, hV⟩; have HM1 := Lib.hid hM1; have HV := Lib.hid hV; obtain ⟨-, k1, -⟩ := ten_ HM1.out.task; have f1 := HM1.out.task.frozen 1; clear hM1 hV)
    obtain ⟨w2, HW2⟩ : ∃ w2, Hid (w2 = w1.setCell ⟨gt, 1, none⟩ (.func (.func 67) #[] #[])) := ⟨_, Lib.hid rfl⟩
    rw [← HW2.out]
    have HM2 := Lib.hid (show M14 w2 gt gr gc gl kc ex size xs (cnt + 1) { T with tail := n, d := some 67 } by rw [HW2.out]; exact HM1.out.setT 1 _ rfl HM1.out.ok)
    have HV2 := Lib.hid (show Mv [gc, gl, gt] w w2 by rw [HW2.out]; exact HV.out.set _ _ (by simp))
    clear k1 f1 HM1 HV HW2 HL
    obtain ⟨-, -, -, -, c4, c5, -, -, -, -⟩ := ten_ HM2.out.task
    simp only at c4 c5
    go_quiet (fail)
    go_wp2_with fail
    go_end0
    exact ⟨rfl, HM2.out.step (below_drewN _ _ _), HV2.out.trans (Mv.of_below (below_drewN _ _ _) (Nat.le_refl _))⟩
theorem getCell_any {w : World} {gt gr gc gl kc size cnt : Nat} {ex : List Value} {xs : List Int} {T : Tk} (M : M14 w gt gr gc gl kc ex size xs cnt T) (hb : cnt < 899999) (hi : 3 + T.head % size < xs.length) :
    Calls Try.prog 67 #[.pointer (some ⟨gt, 0, none⟩)] w fun e w' => e = .returned (.tuple #[]) ∧ M14 w' gt gr gc gl kc ex size xs (cnt + 1) { T with old := xs[3 + T.head % size], d := some 71 } ∧ Mv [gc, gl, gt] w w' := by
  have MD : M14 w.drew gt gr gc gl kc ex size xs cnt T := M.step (Below.refl _ _).drew
  have HC := Lib.hid (mcell_any MD.ring T.head M.ok.2.1 M.fits.1)
  obtain ⟨x, HX⟩ : ∃ x, Hid (x = xs[3 + T.head % size]) := ⟨_, Lib.hid rfl⟩
  have HS := load_any MD.cells (3 + T.head % size) hi (by omega)
  rw [← HX.out] at HS ⊢
  have HS := Lib.hid HS
  have HM := Lib.hid MD
  obtain ⟨c0, -, -, -, c4, -, -, -, -, -⟩ := ten_ M.task
  have F0 : ∀ w', SC gc gl w w' → w'.cell? ⟨gt, 0, none⟩ = some (.pointer (some ⟨gr, 0, none⟩)) := fun w' h => h.cell M.task M.n1.2.1 M.n1.2.2 c0
  have F4 : ∀ w', SC gc gl w w' → w'.cell? ⟨gt, 4, none⟩ = some (.int .u32 T.head) := fun w' h => h.cell M.task M.n1.2.1 M.n1.2.2 c4
  have R0 : ∀ w', SC gc gl w w' → w'.cell? ⟨gr, 0, none⟩ = some (.pointer (some ⟨gc, 0, none⟩)) := fun w' h => h.cell M.ring M.n2.1 M.n2.2 ((M.ring.cell 0).trans rfl)
  have hd : SC gc gl w w.drew := Mv.of_below (Below.refl _ w).drew (Nat.le_refl _)
  have HD := Lib.hid hd
  clear HX
  clear M MD hi c0 c4 hd
  go_enter Try.func67, Try.ntmps67
  go_wp2_with fail
  refine region_schE (SC gc gl w) [([0, 1, 2, 3, 4, 5, 6, 7, 8, 9, 10, 11, 12, 13, 14, 15], 16), ([], 17)] [18, 19] 20 (by kernel_rfl) (by kernel_rfl) (by kernel_rfl) (fun _ _ d _ _ h => by cases d <;> exact h) HD.out ?_
  (try simp only [Act.put, List.setIfInBounds_toArray, List.set_cons_zero, List.set_cons_succ]); refine schE_seg ?_; simp only [pickOps, List.getElem?_toArray, List.getElem?_cons_zero, List.getElem?_cons_succ]; (repeat (first | go_big_quiet_skip | (go_big_quiet_want; first | (go_big_quiet_op; first | go_big_quiet_on | ((first | with_reducible refine ⟨_, fun _ _ => rfl, ?_⟩); go_big_quiet_on)) | (simp (contextual := true) [go_sem, F0, F4, R0]; with_reducible refine ⟨_, fun _ _ => rfl, ?_⟩; go_big_quiet_on)))); refine wpQuiet_nil ?_
  go_wp2_with fail
  refine HC.out.mono ?_
  rintro e w1 ⟨rfl, rfl⟩
  go_wp2_with fail
  refine ⟨SC gc gl w, HD.out, fun _ h => h, ?_⟩
  (try simp only [Act.put, List.setIfInBounds_toArray, List.set_cons_zero, List.set_cons_succ]); refine schE_seg ?_; simp only [pickOps, List.getElem?_toArray, List.getElem?_cons_zero, List.getElem?_cons_succ]; (repeat (first | go_big_quiet_skip | (go_big_quiet_want; first | (go_big_quiet_op; first | go_big_quiet_on | ((first | with_reducible refine ⟨_, fun _ _ => rfl, ?_⟩); go_big_quiet_on)) | (simp (contextual := true) [go_sem, F0, F4, R0]; with_reducible refine ⟨_, fun _ _ => rfl, ?_⟩; go_big_quiet_on)))); refine wpQuiet_nil ?_
  go_wp2_with fail
  refine HS.out.mono ?_
  rintro e w2 ⟨rfl, hC, hV⟩
  have HM2 := Lib.hid (HM.out.load hC (hV.mono (by simp)) rfl hb)
  have HV2 := Lib.hid (show Mv [gc, gl] w w2 from Mv.trans HD.out (hV.mono (by simp)))
  go_wp2_with fail
  refine ⟨SC gc gl w, HV2.out, fun _ h => h, ?_⟩
  (try simp only [Act.put, List.setIfInBounds_toArray, List.set_cons_zero, List.set_cons_succ]); refine schE_last ?_; simp only [pickOps, List.getElem?_toArray, List.getElem?_cons_zero, List.getElem?_cons_succ]; (repeat (first | go_big_quiet_skip | (go_big_quiet_want; first | (go_big_quiet_op; first | go_big_quiet_on | ((first | with_reducible refine ⟨_, fun _ _ => rfl, ?_⟩); go_big_quiet_on)) | (simp (contextual := true) [go_sem, F0, F4, R0]; with_reducible refine ⟨_, fun _ _ => rfl, ?_⟩; go_big_quiet_on)))); refine wpQuiet_nil ?_
  obtain ⟨-, k1, -, k3, -⟩ := ten_ HM2.out.task
  have f1 := HM2.out.task.frozen 1
  have f3 := HM2.out.task.frozen 3
  clear hC hV F0 F4 R0
  go_wp2_with fail
  go_end0
  have a1 := HM2.out.setT (T' := { T with old := x }) 3 _ rfl HM2.out.ok
  exact ⟨rfl, a1.setT 1 _ rfl a1.ok, ((HV2.out.mono (by intro k hk _; simp at hk ⊢; omega)).set _ _ (by simp)).set _ _ (by simp)⟩
end Go.Proofs.Ythnhjhlpimgkiaa

/-
  Chapter 14: getNext, grabNext, getDone: what takes one number (printed by wip/gennxt.py).
-/
import Derived.Test.YthnhjhlpimgkiaaMov14
namespace Go.Proofs.Ythnhjhlpimgkiaa
open Go.RowKit
/-- A slice with these numbers, in memory of the call's own. -/
def GotIs (w0 w : World) (v : Value) (l : List Int) : Prop := ∃ A n c, v = .slice A n c ∧ Own w w0.heap.size 2 1 A n c (ints l)
theorem one_own {w0 w : World} {g : Nat} {x : Int} (h : Blk w g 2 #[.int .i64 x]) (hg : w0.heap.size ≤ g) : GotIs w0 w (.slice (some ⟨g, 0, none⟩) 1 1) [x] :=
  ⟨_, 1, 1, rfl, by simp [ints], .inr ⟨g, 1, _, rfl, hg, h, Nat.le_refl _, by unfold maxLen; omega, rfl, rfl⟩⟩
set_option maxHeartbeats 1000000 in
theorem getNext_any {w : World} {gt gr gc gl kc size cnt : Nat} {ex : List Value} {xs : List Int} {T : Tk} (M : M14 w gt gr gc gl kc ex size xs cnt T) (hb : cnt < 899999) (h0 : 2 < xs.length) :
    Calls Try.prog 44 #[.pointer (some ⟨gt, 0, none⟩)] w fun e w' => e = .returned (.tuple #[]) ∧ Mv [gc, gl, gt] w w' ∧ (if xs[2] = T.old then ∃ v, GotIs w w' v [T.old] ∧ M14 w' gt gr gc gl kc ex size (xs.set 2 0) (cnt + 1) { T with d := none, got := v } else M14 w' gt gr gc gl kc ex size xs (cnt + 1) { T with d := some 45 }) := by
  have MD : M14 w.drew gt gr gc gl kc ex size xs cnt T := M.step (Below.refl _ _).drew
  have HS := cas_any MD.cells 2 h0 T.old 0 (by omega)
  obtain ⟨ys, HY⟩ : ∃ ys : List Int, Hid (ys = if xs[2] = T.old then xs.set 2 0 else xs) := ⟨_, Lib.hid rfl⟩
  have hyl : Hid (ys.length = xs.length) := by rw [HY.out]; show List.length _ = _; split <;> simp
  rw [← HY.out] at HS
  have HM := Lib.hid MD
  obtain ⟨c0, -, -, c3, -, -, -, -, -, -⟩ := ten_ M.task
  have F0 : ∀ w', SC gc gl w w' → w'.cell? ⟨gt, 0, none⟩ = some (.pointer (some ⟨gr, 0, none⟩)) := fun w' h => h.cell M.task M.n1.2.1 M.n1.2.2 c0
  have F3 : ∀ w', SC gc gl w w' → w'.cell? ⟨gt, 3, none⟩ = some (.int .i64 T.old) := fun w' h => h.cell M.task M.n1.2.1 M.n1.2.2 c3
  have R0 : ∀ w', SC gc gl w w' → w'.cell? ⟨gr, 0, none⟩ = some (.pointer (some ⟨gc, 0, none⟩)) := fun w' h => h.cell M.ring M.n2.1 M.n2.2 ((M.ring.cell 0).trans rfl)
  have hd : SC gc gl w w.drew := Mv.of_below (Below.refl _ w).drew (Nat.le_refl _)
  have HD := Lib.hid hd
  by_cases hx : xs[2] = T.old
  · simp only [if_pos hx] at HY ⊢
    rw [← HY.out]
    simp only [hx, decide_true] at HS
    have HS := Lib.hid HS
    clear HY
    clear M MD hx h0 c0 c3 hd
    go_enter Try.func44, Try.ntmps44
    go_wp2_with fail
    refine region_schE (SC gc gl w) [] [0, 1, 2, 3, 4, 5, 6, 7, 8, 9, 10] 11 (by kernel_rfl) (by kernel_rfl) (by kernel_rfl) (fun _ _ d _ _ h => by cases d <;> exact h) HD.out ?_
    (try simp only [Act.put, List.setIfInBounds_toArray, List.set_cons_zero, List.set_cons_succ]); refine schE_last ?_; simp only [pickOps, List.getElem?_toArray, List.getElem?_cons_zero, List.getElem?_cons_succ]; (repeat (first | go_big_quiet_skip | (go_big_quiet_want; first | (go_big_quiet_op; first | go_big_quiet_on | ((first | with_reducible refine ⟨_, fun _ _ => rfl, ?_⟩); go_big_quiet_on)) | (simp (contextual := true) [go_sem, F0, F3, R0]; with_reducible refine ⟨_, fun _ _ => rfl, ?_⟩; go_big_quiet_on)))); refine wpQuiet_nil ?_
    go_wp2_with fail
    refine HS.out.mono ?_
    rintro e w2 ⟨rfl, hC, hV⟩
    have HM2 := Lib.hid (HM.out.load hC hV hyl.out hb)
    have HV2 := Lib.hid (show Mv [gc, gl] w w2 from Mv.trans HD.out hV)
    obtain ⟨-, -, -, k3, -⟩ := ten_ HM2.out.task
    clear hC hV F0 F3 R0
    obtain ⟨w3, HW3⟩ : ∃ w3, Hid (w3 = w2.alloc (.cells #[.int .i64 T.old] 2)) := ⟨_, Lib.hid rfl⟩
    have hb3 : Below w2.heap.size w2 w3 := by rw [HW3.out]; exact (Below.refl _ w2).alloc (Nat.le_refl _) _
    have HB3 := Lib.hid (show Blk w3 w2.heap.size 2 #[.int .i64 T.old] by rw [HW3.out]; exact Blk.new _ _ _)
    have HV3 := Lib.hid (show Mv [gc, gl, gt] w w3 from (HV2.out.mono (by intro k hk _; simp at hk ⊢; omega)).trans (.of_below hb3 (Nat.le_refl _)))
    have HE := Lib.hid (mend_nil (HM2.out.step hb3) (some ⟨w2.heap.size, 0, none⟩) 1 1)
    have HLT := Lib.hid HM2.out.task.lt
    have HSZ := Lib.hid HV2.out.size
    clear hb3
    go_wp2_with (rw [← HW3.out]; go_at_call 27; refine HE.out.mono ?_; rintro e w4 ⟨rfl, hM4, hV4⟩)
    refine bodyPost_ret (results_none rfl _ _ _) rfl ?_
    exact ⟨rfl, HV3.out.trans (hV4.mono (by simp)), _, one_own (hV4.blk HB3.out (by have := HLT.out; simp; omega)) HSZ.out, hM4⟩
  · simp only [if_neg hx] at HY ⊢
    rw [HY.out] at HS hyl
    have hxd : decide (xs[2] = T.old) = false := by simpa using hx
    rw [hxd] at HS
    have HS := Lib.hid HS
    clear HY
    clear M MD hx hxd h0 c0 c3 hd
    go_enter Try.func44, Try.ntmps44
    go_wp2_with fail
    refine region_schE (SC gc gl w) [] [0, 1, 2, 3, 4, 5, 6, 7, 8, 9, 10] 11 (by kernel_rfl) (by kernel_rfl) (by kernel_rfl) (fun _ _ d _ _ h => by cases d <;> exact h) HD.out ?_
    (try simp only [Act.put, List.setIfInBounds_toArray, List.set_cons_zero, List.set_cons_succ]); refine schE_last ?_; simp only [pickOps, List.getElem?_toArray, List.getElem?_cons_zero, List.getElem?_cons_succ]; (repeat (first | go_big_quiet_skip | (go_big_quiet_want; first | (go_big_quiet_op; first | go_big_quiet_on | ((first | with_reducible refine ⟨_, fun _ _ => rfl, ?_⟩); go_big_quiet_on)) | (simp (contextual := true) [go_sem, F0, F3, R0]; with_reducible refine ⟨_, fun _ _ => rfl, ?_⟩; go_big_quiet_on)))); refine wpQuiet_nil ?_
    go_wp2_with fail
    refine HS.out.mono ?_
    rintro e w2 ⟨rfl, hC, hV⟩
    have HM2 := Lib.hid (HM.out.load hC hV rfl hb)
    have HV2 := Lib.hid (show Mv [gc, gl] w w2 from Mv.trans HD.out hV)
    obtain ⟨-, k1, -⟩ := ten_ HM2.out.task
    have f1 := HM2.out.task.frozen 1
    clear hC hV F0 F3 R0
    go_wp2_with fail
    go_end0
    exact ⟨rfl, (HV2.out.mono (by intro k hk _; simp at hk ⊢; omega)).set _ _ (by simp), HM2.out.setT 1 _ rfl HM2.out.ok⟩
set_option maxHeartbeats 1000000 in
theorem grabNext_any {w : World} {gt gr gc gl kc size cnt : Nat} {ex : List Value} {xs : List Int} {T : Tk} (M : M14 w gt gr gc gl kc ex size xs cnt T) (hb : cnt < 899999) (h0 : 2 < xs.length) :
    Calls Try.prog 68 #[.pointer (some ⟨gt, 0, none⟩)] w fun e w' => e = .returned (.tuple #[]) ∧ Mv [gc, gl, gt] w w' ∧ (if xs[2] = T.old then ∃ v, GotIs w w' v [T.old] ∧ M14 w' gt gr gc gl kc ex size (xs.set 2 0) (cnt + 1) { T with d := none, got := v } else M14 w' gt gr gc gl kc ex size xs (cnt + 1) { T with d := some 30 }) := by
  have MD : M14 w.drew gt gr gc gl kc ex size xs cnt T := M.step (Below.refl _ _).drew
  have HS := cas_any MD.cells 2 h0 T.old 0 (by omega)
  obtain ⟨ys, HY⟩ : ∃ ys : List Int, Hid (ys = if xs[2] = T.old then xs.set 2 0 else xs) := ⟨_, Lib.hid rfl⟩
  have hyl : Hid (ys.length = xs.length) := by rw [HY.out]; show List.length _ = _; split <;> simp
  rw [← HY.out] at HS
  have HM := Lib.hid MD
  obtain ⟨c0, -, -, c3, -, -, -, -, -, -⟩ := ten_ M.task
  have F0 : ∀ w', SC gc gl w w' → w'.cell? ⟨gt, 0, none⟩ = some (.pointer (some ⟨gr, 0, none⟩)) := fun w' h => h.cell M.task M.n1.2.1 M.n1.2.2 c0
  have F3 : ∀ w', SC gc gl w w' → w'.cell? ⟨gt, 3, none⟩ = some (.int .i64 T.old) := fun w' h => h.cell M.task M.n1.2.1 M.n1.2.2 c3
  have R0 : ∀ w', SC gc gl w w' → w'.cell? ⟨gr, 0, none⟩ = some (.pointer (some ⟨gc, 0, none⟩)) := fun w' h => h.cell M.ring M.n2.1 M.n2.2 ((M.ring.cell 0).trans rfl)
  have hd : SC gc gl w w.drew := Mv.of_below (Below.refl _ w).drew (Nat.le_refl _)
  have HD := Lib.hid hd
  by_cases hx : xs[2] = T.old
  · simp only [if_pos hx] at HY ⊢
    rw [← HY.out]
    simp only [hx, decide_true] at HS
    have HS := Lib.hid HS
    clear HY
    clear M MD hx h0 c0 c3 hd
    go_enter Try.func68, Try.ntmps68
    go_wp2_with fail
    refine region_schE (SC gc gl w) [] [0, 1, 2, 3, 4, 5, 6, 7, 8, 9, 10] 11 (by kernel_rfl) (by kernel_rfl) (by kernel_rfl) (fun _ _ d _ _ h => by cases d <;> exact h) HD.out ?_
    (try simp only [Act.put, List.setIfInBounds_toArray, List.set_cons_zero, List.set_cons_succ]); refine schE_last ?_; simp only [pickOps, List.getElem?_toArray, List.getElem?_cons_zero, List.getElem?_cons_succ]; (repeat (first | go_big_quiet_skip | (go_big_quiet_want; first | (go_big_quiet_op; first | go_big_quiet_on | ((first | with_reducible refine ⟨_, fun _ _ => rfl, ?_⟩); go_big_quiet_on)) | (simp (contextual := true) [go_sem, F0, F3, R0]; with_reducible refine ⟨_, fun _ _ => rfl, ?_⟩; go_big_quiet_on)))); refine wpQuiet_nil ?_
    go_wp2_with fail
    refine HS.out.mono ?_
    rintro e w2 ⟨rfl, hC, hV⟩
    have HM2 := Lib.hid (HM.out.load hC hV hyl.out hb)
    have HV2 := Lib.hid (show Mv [gc, gl] w w2 from Mv.trans HD.out hV)
    obtain ⟨-, -, -, k3, -⟩ := ten_ HM2.out.task
    clear hC hV F0 F3 R0
    obtain ⟨w3, HW3⟩ : ∃ w3, Hid (w3 = w2.alloc (.cells #[.int .i64 T.old] 2)) := ⟨_, Lib.hid rfl⟩
    have hb3 : Below w2.heap.size w2 w3 := by rw [HW3.out]; exact (Below.refl _ w2).alloc (Nat.le_refl _) _
    have HB3 := Lib.hid (show Blk w3 w2.heap.size 2 #[.int .i64 T.old] by rw [HW3.out]; exact Blk.new _ _ _)
    have HV3 := Lib.hid (show Mv [gc, gl, gt] w w3 from (HV2.out.mono (by intro k hk _; simp at hk ⊢; omega)).trans (.of_below hb3 (Nat.le_refl _)))
    have HE := Lib.hid (mend_nil (HM2.out.step hb3) (some ⟨w2.heap.size, 0, none⟩) 1 1)
    have HLT := Lib.hid HM2.out.task.lt
    have HSZ := Lib.hid HV2.out.size
    clear hb3
    go_wp2_with (rw [← HW3.out]; go_at_call 27; refine HE.out.mono ?_; rintro e w4 ⟨rfl, hM4, hV4⟩)
    refine bodyPost_ret (results_none rfl _ _ _) rfl ?_
    exact ⟨rfl, HV3.out.trans (hV4.mono (by simp)), _, one_own (hV4.blk HB3.out (by have := HLT.out; simp; omega)) HSZ.out, hM4⟩
  · simp only [if_neg hx] at HY ⊢
    rw [HY.out] at HS hyl
    have hxd : decide (xs[2] = T.old) = false := by simpa using hx
    rw [hxd] at HS
    have HS := Lib.hid HS
    clear HY
    clear M MD hx hxd h0 c0 c3 hd
    go_enter Try.func68, Try.ntmps68
    go_wp2_with fail
    refine region_schE (SC gc gl w) [] [0, 1, 2, 3, 4, 5, 6, 7, 8, 9, 10] 11 (by kernel_rfl) (by kernel_rfl) (by kernel_rfl) (fun _ _ d _ _ h => by cases d <;> exact h) HD.out ?_
    (try simp only [Act.put, List.setIfInBounds_toArray, List.set_cons_zero, List.set_cons_succ]); refine schE_last ?_; simp only [pickOps, List.getElem?_toArray, List.getElem?_cons_zero, List.getElem?_cons_succ]; (repeat (first | go_big_quiet_skip | (go_big_quiet_want; first | (go_big_quiet_op; first | go_big_quiet_on | ((first | with_reducible refine ⟨_, fun _ _ => rfl, ?_⟩); go_big_quiet_on)) | (simp (contextual := true) [go_sem, F0, F3, R0]; with_reducible refine ⟨_, fun _ _ => rfl, ?_⟩; go_big_quiet_on)))); refine wpQuiet_nil ?_
    go_wp2_with fail
    refine HS.out.mono ?_
    rintro e w2 ⟨rfl, hC, hV⟩
    have HM2 := Lib.hid (HM.out.load hC hV rfl hb)
    have HV2 := Lib.hid (show Mv [gc, gl] w w2 from Mv.trans HD.out hV)
    obtain ⟨-, k1, -⟩ := ten_ HM2.out.task
    have f1 := HM2.out.task.frozen 1
    clear hC hV F0 F3 R0
    go_wp2_with fail
    go_end0
    exact ⟨rfl, (HV2.out.mono (by intro k hk _; simp at hk ⊢; omega)).set _ _ (by simp), HM2.out.setT 1 _ rfl HM2.out.ok⟩
end Go.Proofs.Ythnhjhlpimgkiaa

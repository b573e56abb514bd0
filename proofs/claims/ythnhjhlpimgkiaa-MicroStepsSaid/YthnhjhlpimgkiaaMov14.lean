/-
  Chapter 14: move, putNext.
-/
import Derived.Test.YthnhjhlpimgkiaaGtt14
namespace Go.Proofs.Ythnhjhlpimgkiaa
open Go.RowKit
theorem move_any {w : World} {gt gr gc gl kc size cnt : Nat} {ex : List Value} {xs : List Int} {T : Tk} (M : M14 w gt gr gc gl kc ex size xs cnt T) (hb : cnt < 899999) (h0 : 0 < xs.length) (y : Nat) :
    Calls Try.prog 70 #[.pointer (some ⟨gt, 0, none⟩), .int .u32 y] w fun e w' => e = .returned (.bool (decide (xs[0] = T.head))) ∧ M14 w' gt gr gc gl kc ex size (if xs[0] = T.head then xs.set 0 (u ((T.head : Int) + y)) else xs) (cnt + 1) T ∧ Mv [gc, gl] w w' := by
  have MD : M14 w.drew gt gr gc gl kc ex size xs cnt T := M.step (Below.refl _ _).drew
  obtain ⟨n, HN⟩ : ∃ n, Hid (n = u ((T.head : Int) + y)) := ⟨_, Lib.hid rfl⟩
  rw [← HN.out]
  have hn : n < 4294967296 := by rw [HN.out]; exact u_lt _
  have hh : T.head < 4294967296 := M.ok.2.1
  have hw1 : IntKind.u32.wrap ((T.head : Int) + y) = n := by rw [HN.out]; exact wrap_u _
  have hw2 : ((T.head : Int) + y) % 4294967296 = n := by rw [HN.out]; exact mod_u _
  have HS := cas_any MD.cells 0 h0 T.head n (by omega)
  obtain ⟨ys, HY⟩ : ∃ ys : List Int, Hid (ys = if xs[0] = (T.head : Int) then xs.set 0 n else xs) := ⟨_, Lib.hid rfl⟩
  have hyl : Hid (ys.length = xs.length) := by rw [HY.out]; show List.length _ = _; split <;> simp
  obtain ⟨b, HBB⟩ : ∃ b : Bool, Hid (b = decide (xs[0] = (T.head : Int))) := ⟨_, Lib.hid rfl⟩
  rw [← HY.out, ← HBB.out] at HS ⊢
  have HS := Lib.hid HS
  have HM := Lib.hid MD
  obtain ⟨c0, -, -, -, c4, -, -, -, -, -⟩ := ten_ M.task
  have F0 : ∀ w', SC gc gl w w' → w'.cell? ⟨gt, 0, none⟩ = some (.pointer (some ⟨gr, 0, none⟩)) := fun w' h => h.cell M.task M.n1.2.1 M.n1.2.2 c0
  have F4 : ∀ w', SC gc gl w w' → w'.cell? ⟨gt, 4, none⟩ = some (.int .u32 T.head) := fun w' h => h.cell M.task M.n1.2.1 M.n1.2.2 c4
  have R0 : ∀ w', SC gc gl w w' → w'.cell? ⟨gr, 0, none⟩ = some (.pointer (some ⟨gc, 0, none⟩)) := fun w' h => h.cell M.ring M.n2.1 M.n2.2 ((M.ring.cell 0).trans rfl)
  have hd : SC gc gl w w.drew := Mv.of_below (Below.refl _ w).drew (Nat.le_refl _)
  have HD := Lib.hid hd
  clear HY HBB
  clear M MD h0 c0 c4 hd
  go_enter Try.func70, Try.ntmps70
  go_wp2_with fail
  refine region_sch (SC gc gl w) [([0, 1, 2, 3, 4, 5, 6, 7, 8, 9, 10, 11, 12, 13, 14, 15, 16, 17, 18], 19)] [20] (by kernel_rfl) (by kernel_rfl) (by kernel_rfl) (fun _ _ d _ _ h => by cases d <;> exact h) HD.out ?_
  (try simp only [Act.put, List.setIfInBounds_toArray, List.set_cons_zero, List.set_cons_succ]); refine sch_seg ?_; simp only [pickOps, List.getElem?_toArray, List.getElem?_cons_zero, List.getElem?_cons_succ]; (repeat (first | go_big_quiet_skip | (go_big_quiet_want; first | (go_big_quiet_op; first | go_big_quiet_on | ((first | with_reducible refine ⟨_, fun _ _ => rfl, ?_⟩); go_big_quiet_on)) | (simp (contextual := true) [go_sem, F0, F4, R0]; with_reducible refine ⟨_, fun _ _ => rfl, ?_⟩; go_big_quiet_on)))); refine wpQuiet_nil ?_
  go_wp2_with fail
  refine HS.out.mono ?_
  rintro e w2 ⟨rfl, hC, hV⟩
  have HM2 := Lib.hid (HM.out.load hC hV hyl.out hb)
  have HV2 := Lib.hid (show Mv [gc, gl] w w2 from Mv.trans HD.out hV)
  go_wp2_with fail
  refine ⟨SC gc gl w, HV2.out, fun _ h => h, ?_⟩
  (try simp only [Act.put, List.setIfInBounds_toArray, List.set_cons_zero, List.set_cons_succ]); refine sch_end ?_; simp only [pickOps, List.getElem?_toArray, List.getElem?_cons_zero, List.getElem?_cons_succ]; (repeat (first | go_big_quiet_skip | (go_big_quiet_want; first | (go_big_quiet_op; first | go_big_quiet_on | ((first | with_reducible refine ⟨_, fun _ _ => rfl, ?_⟩); go_big_quiet_on)) | (simp (contextual := true) [go_sem, F0]; with_reducible refine ⟨_, fun _ _ => rfl, ?_⟩; go_big_quiet_on)))); refine wpQuiet_nil ?_
  clear hC hV F0 F4 R0
  go_wp2_with fail
  go_ret
  exact ⟨rfl, HM2.out, HV2.out⟩
set_option maxHeartbeats 1000000 in
theorem putNext_any {w : World} {gt gr gc gl kc size cnt : Nat} {ex : List Value} {xs : List Int} {T : Tk} (M : M14 w gt gr gc gl kc ex size xs cnt T) (hb : cnt < 899999) (h0 : 2 < xs.length) :
    Calls Try.prog 43 #[.pointer (some ⟨gt, 0, none⟩)] w fun e w' => e = .returned (.tuple #[]) ∧ M14 w' gt gr gc gl kc ex size (if xs[2] = T.old then xs.set 2 T.g else xs) (cnt + 1) (if xs[2] = T.old then (if T.old = 0 then { T with d := none, got := .slice none 0 0 } else { T with g := T.old, d := some 26 }) else { T with d := some 28 }) ∧ Mv [gc, gl, gt] w w' := by
  have MD : M14 w.drew gt gr gc gl kc ex size xs cnt T := M.step (Below.refl _ _).drew
  have HS := cas_any MD.cells 2 h0 T.old T.g (by omega)
  obtain ⟨ys, HY⟩ : ∃ ys : List Int, Hid (ys = if xs[2] = T.old then xs.set 2 T.g else xs) := ⟨_, Lib.hid rfl⟩
  have hyl : Hid (ys.length = xs.length) := by rw [HY.out]; show List.length _ = _; split <;> simp
  rw [← HY.out] at HS ⊢
  have HM := Lib.hid MD
  obtain ⟨c0, -, c2, c3, -, -, -, -, -, -⟩ := ten_ M.task
  have F0 : ∀ w', SC gc gl w w' → w'.cell? ⟨gt, 0, none⟩ = some (.pointer (some ⟨gr, 0, none⟩)) := fun w' h => h.cell M.task M.n1.2.1 M.n1.2.2 c0
  have F2 : ∀ w', SC gc gl w w' → w'.cell? ⟨gt, 2, none⟩ = some (.int .i64 T.g) := fun w' h => h.cell M.task M.n1.2.1 M.n1.2.2 c2
  have F3 : ∀ w', SC gc gl w w' → w'.cell? ⟨gt, 3, none⟩ = some (.int .i64 T.old) := fun w' h => h.cell M.task M.n1.2.1 M.n1.2.2 c3
  have R0 : ∀ w', SC gc gl w w' → w'.cell? ⟨gr, 0, none⟩ = some (.pointer (some ⟨gc, 0, none⟩)) := fun w' h => h.cell M.ring M.n2.1 M.n2.2 ((M.ring.cell 0).trans rfl)
  have hd : SC gc gl w w.drew := Mv.of_below (Below.refl _ w).drew (Nat.le_refl _)
  have HD := Lib.hid hd
  clear HY
  by_cases hx : xs[2] = T.old
  · simp only [if_pos hx]
    simp only [hx, decide_true] at HS
    have HS := Lib.hid HS
    clear M MD hx h0 c0 c2 c3 hd
    have hgo : ∀ Q : Prop, Q → Q := fun _ h => h
    by_cases ho : T.old = 0
    · have hoe : (T.old == 0) = true := by simpa using ho
      rw [if_pos ho]
      clear ho
      go_enter Try.func43, Try.ntmps43
      go_wp2_with fail
      refine region_sch (SC gc gl w) [([0, 1, 2, 3, 4, 5, 6, 7, 8, 9, 10, 11, 12, 13, 14], 15)] [16, 17] (by kernel_rfl) (by kernel_rfl) (by kernel_rfl) (fun _ _ d _ _ h => by cases d <;> exact h) HD.out ?_
      (try simp only [Act.put, List.setIfInBounds_toArray, List.set_cons_zero, List.set_cons_succ]); refine sch_seg ?_; simp only [pickOps, List.getElem?_toArray, List.getElem?_cons_zero, List.getElem?_cons_succ]; (repeat (first | go_big_quiet_skip | (go_big_quiet_want; first | (go_big_quiet_op; first | go_big_quiet_on | ((first | with_reducible refine ⟨_, fun _ _ => rfl, ?_⟩); go_big_quiet_on)) | (simp (contextual := true) [go_sem, F0, F2, F3, R0]; with_reducible refine ⟨_, fun _ _ => rfl, ?_⟩; go_big_quiet_on)))); refine wpQuiet_nil ?_
      go_wp2_with fail
      refine HS.out.mono ?_
      rintro e w2 ⟨rfl, hC, hV⟩
      have HM2 := Lib.hid (HM.out.load hC hV hyl.out hb)
      have HV2 := Lib.hid (show Mv [gc, gl] w w2 from Mv.trans HD.out hV)
      go_wp2_with fail
      refine ⟨SC gc gl w, HV2.out, fun _ h => h, ?_⟩
      (try simp only [Act.put, List.setIfInBounds_toArray, List.set_cons_zero, List.set_cons_succ]); refine sch_end ?_; simp only [pickOps, List.getElem?_toArray, List.getElem?_cons_zero, List.getElem?_cons_succ]; (repeat (first | go_big_quiet_skip | (go_big_quiet_want; first | (go_big_quiet_op; first | go_big_quiet_on | ((first | with_reducible refine ⟨_, fun _ _ => rfl, ?_⟩); go_big_quiet_on)) | (simp (contextual := true) [go_sem, F0]; with_reducible refine ⟨_, fun _ _ => rfl, ?_⟩; go_big_quiet_on)))); refine wpQuiet_nil ?_
      obtain ⟨-, k1, k2, k3, -⟩ := ten_ HM2.out.task
      have f1 := HM2.out.task.frozen 1
      have f2 := HM2.out.task.frozen 2
      have f3 := HM2.out.task.frozen 3
      clear hC hV F0 F2 F3 R0
      have HE := Lib.hid (mend_nil HM2.out none 0 0)
      go_wp2_with (go_at_call 27; refine HE.out.mono ?_; rintro e w3 ⟨rfl, hM3, hV3⟩)
      go_end0
      exact ⟨rfl, hM3, (HV2.out.mono (by intro k hk _; simp at hk ⊢; omega)).trans (hV3.mono (by simp))⟩
    · have hoe : (T.old == 0) = false := by simpa using ho
      rw [if_neg ho]
      go_enter Try.func43, Try.ntmps43
      go_wp2_with fail
      refine region_sch (SC gc gl w) [([0, 1, 2, 3, 4, 5, 6, 7, 8, 9, 10, 11, 12, 13, 14], 15)] [16, 17] (by kernel_rfl) (by kernel_rfl) (by kernel_rfl) (fun _ _ d _ _ h => by cases d <;> exact h) HD.out ?_
      (try simp only [Act.put, List.setIfInBounds_toArray, List.set_cons_zero, List.set_cons_succ]); refine sch_seg ?_; simp only [pickOps, List.getElem?_toArray, List.getElem?_cons_zero, List.getElem?_cons_succ]; (repeat (first | go_big_quiet_skip | (go_big_quiet_want; first | (go_big_quiet_op; first | go_big_quiet_on | ((first | with_reducible refine ⟨_, fun _ _ => rfl, ?_⟩); go_big_quiet_on)) | (simp (contextual := true) [go_sem, F0, F2, F3, R0]; with_reducible refine ⟨_, fun _ _ => rfl, ?_⟩; go_big_quiet_on)))); refine wpQuiet_nil ?_
      go_wp2_with fail
      refine HS.out.mono ?_
      rintro e w2 ⟨rfl, hC, hV⟩
      have HM2 := Lib.hid (HM.out.load hC hV hyl.out hb)
      have HV2 := Lib.hid (show Mv [gc, gl] w w2 from Mv.trans HD.out hV)
      go_wp2_with fail
      refine ⟨SC gc gl w, HV2.out, fun _ h => h, ?_⟩
      (try simp only [Act.put, List.setIfInBounds_toArray, List.set_cons_zero, List.set_cons_succ]); refine sch_end ?_; simp only [pickOps, List.getElem?_toArray, List.getElem?_cons_zero, List.getElem?_cons_succ]; (repeat (first | go_big_quiet_skip | (go_big_quiet_want; first | (go_big_quiet_op; first | go_big_quiet_on | ((first | with_reducible refine ⟨_, fun _ _ => rfl, ?_⟩); go_big_quiet_on)) | (simp (contextual := true) [go_sem, F0]; with_reducible refine ⟨_, fun _ _ => rfl, ?_⟩; go_big_quiet_on)))); refine wpQuiet_nil ?_
      obtain ⟨-, k1, k2, k3, -⟩ := ten_ HM2.out.task
      have f1 := HM2.out.task.frozen 1
      have f2 := HM2.out.task.frozen 2
      have f3 := HM2.out.task.frozen 3
      clear hC hV F0 F2 F3 R0
      go_wp2_with fail
      go_end0
      have a1 := HM2.out.setT (T' := { T with g := T.old }) 2 _ rfl HM2.out.ok
      exact ⟨rfl, a1.setT 1 _ rfl a1.ok, ((HV2.out.mono (by intro k hk _; simp at hk ⊢; omega)).set _ _ (by simp)).set _ _ (by simp)⟩
  · simp only [if_neg hx]
    have hxd : decide (xs[2] = T.old) = false := by simpa using hx
    rw [hxd] at HS
    have HS := Lib.hid HS
    clear M MD hx hxd h0 c0 c2 c3 hd
    go_enter Try.func43, Try.ntmps43
    go_wp2_with fail
    refine region_sch (SC gc gl w) [([0, 1, 2, 3, 4, 5, 6, 7, 8, 9, 10, 11, 12, 13, 14], 15)] [16, 17] (by kernel_rfl) (by kernel_rfl) (by kernel_rfl) (fun _ _ d _ _ h => by cases d <;> exact h) HD.out ?_
    (try simp only [Act.put, List.setIfInBounds_toArray, List.set_cons_zero, List.set_cons_succ]); refine sch_seg ?_; simp only [pickOps, List.getElem?_toArray, List.getElem?_cons_zero, List.getElem?_cons_succ]; (repeat (first | go_big_quiet_skip | (go_big_quiet_want; first | (go_big_quiet_op; first | go_big_quiet_on | ((first | with_reducible refine ⟨_, fun _ _ => rfl, ?_⟩); go_big_quiet_on)) | (simp (contextual := true) [go_sem, F0, F2, F3, R0]; with_reducible refine ⟨_, fun _ _ => rfl, ?_⟩; go_big_quiet_on)))); refine wpQuiet_nil ?_
    go_wp2_with fail
    refine HS.out.mono ?_
    rintro e w2 ⟨rfl, hC, hV⟩
    have HM2 := Lib.hid (HM.out.load hC hV hyl.out hb)
    have HV2 := Lib.hid (show Mv [gc, gl] w w2 from Mv.trans HD.out hV)
    go_wp2_with fail
    refine ⟨SC gc gl w, HV2.out, fun _ h => h, ?_⟩
    (try simp only [Act.put, List.setIfInBounds_toArray, List.set_cons_zero, List.set_cons_succ]); refine sch_end ?_; simp only [pickOps, List.getElem?_toArray, List.getElem?_cons_zero, List.getElem?_cons_succ]; (repeat (first | go_big_quiet_skip | (go_big_quiet_want; first | (go_big_quiet_op; first | go_big_quiet_on | ((first | with_reducible refine ⟨_, fun _ _ => rfl, ?_⟩); go_big_quiet_on)) | (simp (contextual := true) [go_sem, F0]; with_reducible refine ⟨_, fun _ _ => rfl, ?_⟩; go_big_quiet_on)))); refine wpQuiet_nil ?_
    obtain ⟨-, k1, k2, k3, -⟩ := ten_ HM2.out.task
    have f1 := HM2.out.task.frozen 1
    have f2 := HM2.out.task.frozen 2
    have f3 := HM2.out.task.frozen 3
    clear hC hV F0 F2 F3 R0
    go_wp2_with fail
    go_end0
    exact ⟨rfl, HM2.out.setT 1 _ rfl HM2.out.ok, (HV2.out.mono (by intro k hk _; simp at hk ⊢; omega)).set _ _ (by simp)⟩
end Go.Proofs.Ythnhjhlpimgkiaa

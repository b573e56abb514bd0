/-
  Chapter 14: spillDone.
-/
import Derived.Test.YthnhjhlpimgkiaaGbd14
namespace Go.Proofs.Ythnhjhlpimgkiaa
open Go.RowKit
set_option maxHeartbeats 2000000 in
theorem spillDone_any {w : World} {gt gr gc gl kc size cnt : Nat} {ex : List Value} {xs : List Int} {T : Tk} (M : M14 w gt gr gc gl kc ex size xs cnt T) (hb : cnt < 899999) (h0 : 0 < xs.length) (A : Option Addr) (n c base : Nat) (bs : List Int) (hbuf : T.buf = .slice A n c) (hO : Own w base 2 1 A n c (ints bs)) (hbase : base ≤ w.heap.size) (hn : n ≤ 1000) (hfar : BufFar A gt gr gc gl) :
    Calls Try.prog 65 #[.pointer (some ⟨gt, 0, none⟩)] w fun e w' => e = .returned (.tuple #[]) ∧ Mv ([gc, gl, gt] ++ (ob A).toList) w w' ∧ (if xs[0] = T.head then ∃ A' c', M14 w' gt gr gc gl kc ex size (xs.set 0 (u ((T.head : Int) + T.many))) (cnt + 1) { T with d := none, got := .slice A' (n + 1) c' } ∧ Own w' base 2 1 A' (n + 1) c' (ints (bs ++ [T.g])) ∧ (ob A' = ob A ∨ ∃ b, ob A' = some b ∧ w.heap.size ≤ b) else M14 w' gt gr gc gl kc ex size xs (cnt + 1) { T with d := some 26 } ∧ Mv [gc, gl, gt] w w') := by
  have HS := move_any M hb h0 T.many
  obtain ⟨-, -, -, -, -, -, c6, -, -, -⟩ := ten_ M.task
  by_cases hx : xs[0] = (T.head : Int)
  · simp only [hx, decide_true] at HS ⊢
    obtain ⟨ys, HY⟩ : ∃ ys : List Int, Hid (ys = xs.set 0 (u ((T.head : Int) + T.many))) := ⟨_, Lib.hid rfl⟩
    rw [← HY.out] at HS ⊢
    have HS := Lib.hid HS
    have HOW := Lib.hid hO
    have HFAR := Lib.hid hfar
    have HBA := Lib.hid hbase
    have HGTL := Lib.hid M.task.lt
    obtain ⟨i0, hi0, hz0, hz1, hz2⟩ := info_parts Try.info2
    have HI := Lib.hid hi0
    have HZ0 := Lib.hid hz0
    have HZ1 := Lib.hid hz1
    have HZ2 := Lib.hid hz2
    clear M hx h0 HY hO hfar hbase hi0 hz0 hz1 hz2
    go_enter Try.func65, Try.ntmps65
    go_wp2_with fail
    refine HS.out.mono ?_
    rintro e w1 ⟨rfl, hM, hV⟩
    go_wp2_with fail
    have hd : Below w1.heap.size w1 w1.drew := (Below.refl _ w1).drew
    have HM1 := Lib.hid hM
    have HM2 := Lib.hid (hM.step hd)
    have HV1 := Lib.hid hV
    have HV2 := Lib.hid (show Mv [gc, gl] w w1.drew from hV.trans (Mv.of_below hd (Nat.le_refl _)))
    have HO2 := Lib.hid (own_mv HOW.out HV2.out (by intro b hb; have := HFAR.out b hb; simp; omega))
    obtain ⟨-, -, c2, -, -, -, -, c7, -, -⟩ := ten_ hM.task
    rw [hbuf] at c7
    obtain ⟨L, HLL⟩ : ∃ L : List Nat, Hid (L = (ob A).toList) := ⟨_, Lib.hid rfl⟩
    have hgt : gt ∉ L := by
      rw [HLL.out]
      intro h
      rw [Option.mem_toList] at h
      exact (HFAR.out gt h).1 rfl
    have F2 : ∀ w', SL L w1 w' → w'.cell? ⟨gt, 2, none⟩ = some (.int .i64 T.g) := fun w' h => h.cell hM.task hgt c2
    have F7 : ∀ w', SL L w1 w' → w'.cell? ⟨gt, 7, none⟩ = some (.slice A n c) := fun w' h => h.cell hM.task hgt c7
    have HD := Lib.hid (show SL L w1 w1.drew from Mv.of_below hd (Nat.le_refl _))
    clear hM hV hd c2 c7 c6 hbuf hgt
    refine region_schE (SL L w1) [([0, 1, 2, 3, 4, 5, 6, 7, 8], 9), ([], 10)] [] 11 (by kernel_rfl) (by kernel_rfl) (by kernel_rfl) (fun _ _ d _ _ h => by cases d <;> exact h) HD.out ?_
    (try simp only [Act.put, List.setIfInBounds_toArray, List.set_cons_zero, List.set_cons_succ]); refine schE_seg ?_; simp only [pickOps, List.getElem?_toArray, List.getElem?_cons_zero, List.getElem?_cons_succ]; (repeat (first | go_big_quiet_skip | (go_big_quiet_want; first | (go_big_quiet_op; first | go_big_quiet_on | ((first | with_reducible refine ⟨_, fun _ _ => rfl, ?_⟩); go_big_quiet_on)) | (simp (contextual := true) [go_sem, F2, F7]; with_reducible refine ⟨_, fun _ _ => rfl, ?_⟩; go_big_quiet_on)))); refine wpQuiet_nil ?_
    obtain ⟨w3, HW3⟩ : ∃ w3, Hid (w3 = (w1.alloc (.cells #[.int .i64 T.g] 2)).drew) := ⟨_, Lib.hid rfl⟩
    have hb3 : Below w1.drew.heap.size w1.drew w3 := by rw [HW3.out]; exact ⟨rfl, rfl, rfl, by show w1.heap.size ≤ (w1.alloc _).heap.size; rw [World.size_alloc]; omega, fun k hk => ((Below.refl w1.heap.size w1).alloc (Nat.le_refl _) _).block k hk⟩
    have HM3 := Lib.hid (HM2.out.step hb3)
    have HV3 := Lib.hid (show SL L w1 w3 from Mv.trans HD.out (Mv.of_below hb3 (Nat.le_refl _)))
    have HO3 := Lib.hid (own_mv HO2.out (Mv.of_below hb3 (Nat.le_refl _) : Mv [] w1.drew w3) (by simp))
    have HB3 := Lib.hid (show Blk w3 w1.heap.size 2 #[.int .i64 T.g] by rw [HW3.out]; exact (Blk.new w1 _ _).drew)
    have HCX := Lib.hid (show ∀ j u, (ints [T.g])[j]? = some u → w3.cell? ((⟨w1.heap.size, 0, none⟩ : Addr).add j) = some u by
      intro j u hu
      rw [Addr.add_lit, Nat.zero_add, HB3.out.cell j]
      simpa [ints] using hu)
    have HBS := Lib.hid (show base ≤ w3.heap.size from Nat.le_trans HBA.out (Nat.le_trans HV2.out.size hb3.size))
    have H64 : Hid (n + 1 ≤ maxLen) := by unfold maxLen; show _ ≤ _; omega
    have HSZ := Lib.hid (show w.heap.size ≤ w3.heap.size from Nat.le_trans HV2.out.size hb3.size)
    clear hb3
    go_wp2_with fail
    rw [← HW3.out]
    refine ⟨SL L w1, HV3.out, fun _ h => h, ?_⟩
    (try simp only [Act.put, List.setIfInBounds_toArray, List.set_cons_zero, List.set_cons_succ]); refine schE_seg ?_; simp only [pickOps, List.getElem?_toArray, List.getElem?_cons_zero, List.getElem?_cons_succ]; (repeat (first | go_big_quiet_skip | (go_big_quiet_want; first | (go_big_quiet_op; first | go_big_quiet_on | ((first | with_reducible refine ⟨_, fun _ _ => rfl, ?_⟩); go_big_quiet_on)) | (simp (contextual := true) [go_sem, F2]; with_reducible refine ⟨_, fun _ _ => rfl, ?_⟩; go_big_quiet_on)))); refine wpQuiet_nil ?_
    go_wp2_with (at_builtin; go_must (refine wpList_append_1 _ rfl _ _ 31 rfl base 2 i0 _ 1 8 Try.underlying31 HI.out HZ0.out HZ1.out HZ2.out rfl (by decide) A n c (ints bs) rfl HO3.out ⟨w1.heap.size, 0, none⟩ 1 (ints [T.g]) rfl rfl HCX.out (by simp [ints, Value.oneCell']) H64.out (by omega) HBS.out ?_); intro A' c' w4 hown hgrow hat)
    have HM4 := Lib.hid (HM3.out.grown hgrow HFAR.out)
    have HV4 := Lib.hid (show SL L w1 w4 from Mv.trans HV3.out (Mv.of_grown hgrow (by intro b hb; rw [HLL.out]; simp [hb])))
    have HO4 := Lib.hid (show Own w4 base 2 1 A' (n + 1) c' (ints (bs ++ [T.g])) by simpa [ints] using hown)
    have HAT := Lib.hid (show ob A' = ob A ∨ ∃ b, ob A' = some b ∧ w.heap.size ≤ b from hat.imp id (fun e => ⟨_, e, HSZ.out⟩))
    clear hown hgrow hat
    refine ⟨SL L w1, HV4.out, fun _ h => h, ?_⟩
    (try simp only [Act.put, List.setIfInBounds_toArray, List.set_cons_zero, List.set_cons_succ]); refine schE_last ?_; simp only [pickOps, List.getElem?_toArray, List.getElem?_cons_zero, List.getElem?_cons_succ]; (repeat (first | go_big_quiet_skip | (go_big_quiet_want; first | (go_big_quiet_op; first | go_big_quiet_on | ((first | with_reducible refine ⟨_, fun _ _ => rfl, ?_⟩); go_big_quiet_on)) | (simp (contextual := true) [go_sem, F2]; with_reducible refine ⟨_, fun _ _ => rfl, ?_⟩; go_big_quiet_on)))); refine wpQuiet_nil ?_
    have HE := Lib.hid (mend_nil HM4.out A' (n + 1) c')
    clear F2 F7
    go_wp2_with fail
    refine HE.out.mono ?_
    rintro e w5 ⟨rfl, hM5, hv5⟩
    have HM5 := Lib.hid hM5
    have HO5 := Lib.hid (own_mv HO4.out hv5 (by
      intro b hb
      simp only [List.mem_singleton]
      rcases HAT.out with h | ⟨b2, h, h2⟩
      · exact (HFAR.out b (h ▸ hb)).1
      · rw [h] at hb
        injection hb with hb
        have := HGTL.out
        omega))
    have HV5 := Lib.hid (show Mv ([gc, gl, gt] ++ (ob A).toList) w w5 from ((HV1.out.mono (by intro k hk _; simp at hk ⊢; rcases hk with h | h <;> simp [h])).trans (HV4.out.mono (by rw [HLL.out]; intro k hk _; simp at hk ⊢; simp [hk]))).trans (hv5.mono (by simp)))
    clear hM5 hv5
    go_wp2_with fail
    go_end0
    exact ⟨rfl, HV5.out, A', c', HM5.out, HO5.out, HAT.out⟩
  · have hxd : decide (xs[0] = (T.head : Int)) = false := by simpa using hx
    simp only [if_neg hx, hxd] at HS ⊢
    have HS := Lib.hid HS
    clear M hx hxd h0 hbuf hO hbase hfar
    go_enter Try.func65, Try.ntmps65
    go_wp2_with fail
    refine HS.out.mono ?_
    rintro e w2 ⟨rfl, hM, hV⟩
    have HM2 := Lib.hid hM
    have HV2 := Lib.hid hV
    obtain ⟨-, k1, -⟩ := ten_ HM2.out.task
    have f1 := HM2.out.task.frozen 1
    clear hM hV c6
    go_wp2_with fail
    refine bodyPost_ret (results_none rfl _ _ _) rfl ?_
    exact ⟨rfl, (HV2.out.mono (by intro k hk _; simp at hk ⊢; omega)).set _ _ (by simp), HM2.out.setT 1 _ rfl HM2.out.ok, (HV2.out.mono (by intro k hk _; simp at hk ⊢; omega)).set _ _ (by simp)⟩
end Go.Proofs.Ythnhjhlpimgkiaa

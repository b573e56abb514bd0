/-
  The reference's accesses that draw their order (printed by wip/genrdw.py).
-/
import Derived.Test.YthnhjhlpimgkiaaRaw14
import Derived.Test.YthnhjhlpimgkiaaTas14
namespace Go.Proofs.Ythnhjhlpimgkiaa
open Go.RowKit
theorem ro_drew {w w' : World} {g : Nat} {q : Nat → Prop} {xs' : List Int} {P' : Pt} {e : Ending} (h : RO w g q xs' P' e w') : RO w g q xs' P' e w'.drew := by
  obtain ⟨R', B', G', h1, h2, h3, h4, h5, h6⟩ := h
  exact ⟨R', B', G', h1, h2, h3, h4, h5.drew, h6.drew⟩
section
variable {w : World} {g N size : Nat} {q : Nat → Prop} {xs : List Int} {P : Pt} {R : Rt} {A C : Option Addr} {n c m e : Nat}
theorem r_putCell (hb : Blk w g 2 (ints xs).toArray) (hN : xs.length = N) (hL : size + 3 ≤ xs.length) (hs : size = 2 ∨ size = 4 ∨ size = 8) (hx : XOk xs) (hq : ¬ q g) (hr : Rel P R) (hd : P.d = some .putCell) (hB : RowQ w q (.slice A n c) R.buf) (hG : RowQ w q (.slice C m e) R.got) :
    Calls Try.prog 36 #[.slice (some ⟨g, 0, none⟩) N N, .int .i64 size, .agg (rtArr R (.slice A n c) (.slice C m e))] w fun e' w' => RO w g q (acc size xs P .putCell).1 (acc size xs P .putCell).2 e' w' := by
  obtain ⟨r1, r2, r3, r4, r5, ⟨l1, l2, l3, l4⟩, r6, ⟨r7, r7b⟩, r8⟩ := hr
  have r1 := r1 (by rw [hd]; exact Option.some_ne_none _)
  unfold AtIs at r8
  rw [hd] at r8
  obtain ⟨r8, r9, r10, r11, r12⟩ := r8
  obtain ⟨kd, pl, rg, ro, rh, rt, rm, rb, rgot, rs⟩ := R
  simp only [Ac.kd, Ac.pl] at r1 r2 r3 r4 r5 r6 r7 r8 r9 r10
  subst r1 r2 r3 r4 r5 r8 r9
  have x0l := hx.1
  have x0u := hx.2.1
  have x1l := hx.2.2.1
  have x1u := hx.2.2.2
  have HXK := Lib.hid hx
  have hg := hb.lt
  obtain ⟨x0, HX0⟩ : ∃ x, Hid (x = xs.getD 0 0) := ⟨_, Lib.hid rfl⟩
  obtain ⟨x1, HX1⟩ : ∃ x, Hid (x = xs.getD 1 0) := ⟨_, Lib.hid rfl⟩
  obtain ⟨x2, HX2⟩ : ∃ x, Hid (x = xs.getD 2 0) := ⟨_, Lib.hid rfl⟩
  have c0 : w.cell? ⟨g, 0, none⟩ = some (.int .i64 x0) := by rw [HX0.out, getD_at xs 0 (by omega)]; exact blk_at hb 0 _
  have c1 : w.cell? ⟨g, 1, none⟩ = some (.int .i64 x1) := by rw [HX1.out, getD_at xs 1 (by omega)]; exact blk_at hb 1 _
  have c2 : w.cell? ⟨g, 2, none⟩ = some (.int .i64 x2) := by rw [HX2.out, getD_at xs 2 (by omega)]; exact blk_at hb 2 _
  rw [← HX0.out] at x0l x0u
  rw [← HX1.out] at x1l x1u
  have u0 : (u x0 : Int) = x0 := by unfold u; omega
  have u1 : (u x1 : Int) = x1 := by unfold u; omega
  have hN3 : 3 < N := by omega
  have HB := Lib.hid hb
  have HN := Lib.hid hN
  have HL := Lib.hid hL
  have HS := Lib.hid hs
  have HBU := Lib.hid hB
  have HGO := Lib.hid hG
  have HQ := Lib.hid hq
  have HR6 := Lib.hid r6
  have HR7 := Lib.hid r7
  have HR7b := Lib.hid r7b
  have HR10 := Lib.hid r10
  have HR11 := Lib.hid r11
  have HR12 := Lib.hid r12
  clear hb hN hL hs hx hB hG hq r6 r7 r7b r10 r11 r12 hd
  obtain ⟨b, HBN⟩ : ∃ b, Hid (b = w.heap.size) := ⟨_, Lib.hid rfl⟩
  obtain ⟨W, HW⟩ : ∃ W, Hid (W = (w.alloc (.cells #[.int .i64 0, .int .u8 101, .int .i64 P.g, .int .i64 P.old, .int .i64 P.head, .int .i64 P.tail, .int .i64 rm, .slice A n c, .slice C m e, .int .i64 P.steps] 44)).alloc (.cells #[.int .i64 0, .int .u8 0, .int .i64 0, .int .i64 0, .int .i64 0, .int .i64 0, .int .i64 0, .slice none 0 0, .slice none 0 0, .int .i64 0] 44)) := ⟨_, Lib.hid rfl⟩
  have hbx : Blk W b 44 #[.int .i64 0, .int .u8 101, .int .i64 P.g, .int .i64 P.old, .int .i64 P.head, .int .i64 P.tail, .int .i64 rm, .slice A n c, .slice C m e, .int .i64 P.steps] := by rw [HW.out, HBN.out]; exact (Blk.new _ _ _).alloc _
  have hwl : Blk W g 2 (ints xs).toArray := by rw [HW.out]; exact (HB.out.alloc _).alloc _
  have F2 : ∀ w', SB W w' → w'.cell? ⟨b, 2, none⟩ = some (.int .i64 P.g) := fun w' h => h.cell hbx ((hbx.cell 2).trans rfl)
  have F5 : ∀ w', SB W w' → w'.cell? ⟨b, 5, none⟩ = some (.int .i64 P.tail) := fun w' h => h.cell hbx ((hbx.cell 5).trans rfl)
  obtain ⟨k, HK⟩ : ∃ k, Hid (k = 3 + P.tail % size) := ⟨_, Lib.hid rfl⟩
  have hks : k < size + 3 := by rw [HK.out]; have := Nat.mod_lt P.tail (show 0 < size by have := HS.out; omega); omega
  have hkN : k < N := by have := HL.out; have := HN.out; omega
  have HCE := Lib.hid (fun w => rcell_any (P.tail : Int) size HS.out w)
  have huh : 3 + u (P.tail : Int) % size = k := by rw [u_of _ l2, HK.out]
  rw [huh] at HCE
  obtain ⟨y, ck⟩ : ∃ y, W.cell? ⟨g, k, none⟩ = some (.int .i64 y) := ⟨_, blk_at hwl k (by have := HN.out; omega)⟩
  have fk := hwl.frozen k
  have he : acc size xs P .putCell = (xs.set k P.g, { P with d := some .putDone }) := by
    simp only [acc, HK.out]
  rw [he]
  clear he huh hbx hwl HK
  simp only [rtArr]
  go_enter Try.func36, Try.ntmps36
  go_wp2_with fail
  rw [show (w.alloc (.cells #[.int .i64 0, .int .u8 101, .int .i64 P.g, .int .i64 P.old, .int .i64 P.head, .int .i64 P.tail, .int .i64 rm, .slice A n c, .slice C m e, .int .i64 P.steps] 44)).alloc (.cells #[.int .i64 0, .int .u8 0, .int .i64 0, .int .i64 0, .int .i64 0, .int .i64 0, .int .i64 0, .slice none 0 0, .slice none 0 0, .int .i64 0] 44) = W from HW.out.symm, ← HBN.out]
  have HD := Lib.hid (show SB W W.drew from (Below.refl _ _).drew)
  refine region_schE (SB W) [([0, 1, 2, 3, 5, 6], 4)] [7] 8 (by kernel_rfl) (by kernel_rfl) (by kernel_rfl) (fun _ _ d _ _ h => by cases d <;> exact h) HD.out ?_
  (try simp only [Act.put, List.setIfInBounds_toArray, List.set_cons_zero, List.set_cons_succ]); refine schE_seg ?_; simp only [pickOps, List.getElem?_toArray, List.getElem?_cons_zero, List.getElem?_cons_succ]; (repeat (first | go_big_quiet_skip | (go_big_quiet_want; first | (go_big_quiet_op; first | go_big_quiet_on | ((first | with_reducible refine ⟨_, fun _ _ => rfl, ?_⟩); go_big_quiet_on)) | (simp (contextual := true) [go_sem, F2, F5]; with_reducible refine ⟨_, fun _ _ => rfl, ?_⟩; go_big_quiet_on)))); refine wpQuiet_nil ?_
  go_wp2_with fail
  refine (HCE.out _).mono ?_
  rintro e' w1 ⟨rfl, rfl⟩
  go_wp2_with fail
  refine ⟨SB W, HD.out, fun _ h => h, ?_⟩
  (try simp only [Act.put, List.setIfInBounds_toArray, List.set_cons_zero, List.set_cons_succ]); refine schE_last ?_; simp only [pickOps, List.getElem?_toArray, List.getElem?_cons_zero, List.getElem?_cons_succ]; (repeat (first | go_big_quiet_skip | (go_big_quiet_want; first | (go_big_quiet_op; first | go_big_quiet_on | ((first | with_reducible refine ⟨_, fun _ _ => rfl, ?_⟩); go_big_quiet_on)) | (simp (contextual := true) [go_sem, F2]; with_reducible refine ⟨_, fun _ _ => rfl, ?_⟩; go_big_quiet_on)))); refine wpQuiet_nil ?_
  have hW := HW.out
  have hbn := HBN.out
  subst hW hbn
  clear F2 F5 HW HBN HD
  go_wp2_with fail
  refine bodyPost_ret (v := .agg (rtArr ⟨0, 102, P.g, P.old, P.head, P.tail, rm, rb, rgot, P.steps⟩ (.slice A n c) (.slice C m e))) (by simp [results, Try.results36, go_sem, rtArr]) rfl ?_
  exact ro_drew (ro_write HB.out HQ.out (((Below.refl _ (w.setCell ⟨g, k, none⟩ (.int .i64 P.g))).alloc (by simp) _).alloc (by simp) _) ⟨fun _ => rfl, rfl, rfl, rfl, rfl, ⟨l1, l2, l3, l4⟩, HR6.out, ⟨HR7.out, HR7b.out⟩, at_some .putDone rfl rfl rfl HR10.out HR11.out (fun h => by cases h)⟩ HBU.out HGO.out)
theorem r_getDone (hb : Blk w g 2 (ints xs).toArray) (hN : xs.length = N) (hL : size + 3 ≤ xs.length) (hs : size = 2 ∨ size = 4 ∨ size = 8) (hx : XOk xs) (hq : ¬ q g) (hr : Rel P R) (hd : P.d = some .getDone) (hB : RowQ w q (.slice A n c) R.buf) (hG : RowQ w q (.slice C m e) R.got) :
    Calls Try.prog 37 #[.slice (some ⟨g, 0, none⟩) N N, .int .i64 size, .agg (rtArr R (.slice A n c) (.slice C m e))] w fun e' w' => RO w g q (acc size xs P .getDone).1 (acc size xs P .getDone).2 e' w' := by
  obtain ⟨r1, r2, r3, r4, r5, ⟨l1, l2, l3, l4⟩, r6, ⟨r7, r7b⟩, r8⟩ := hr
  have r1 := r1 (by rw [hd]; exact Option.some_ne_none _)
  unfold AtIs at r8
  rw [hd] at r8
  obtain ⟨r8, r9, r10, r11, r12⟩ := r8
  obtain ⟨kd, pl, rg, ro, rh, rt, rm, rb, rgot, rs⟩ := R
  simp only [Ac.kd, Ac.pl] at r1 r2 r3 r4 r5 r6 r7 r8 r9 r10
  subst r1 r2 r3 r4 r5 r8 r9
  have x0l := hx.1
  have x0u := hx.2.1
  have x1l := hx.2.2.1
  have x1u := hx.2.2.2
  have HXK := Lib.hid hx
  have hg := hb.lt
  obtain ⟨x0, HX0⟩ : ∃ x, Hid (x = xs.getD 0 0) := ⟨_, Lib.hid rfl⟩
  obtain ⟨x1, HX1⟩ : ∃ x, Hid (x = xs.getD 1 0) := ⟨_, Lib.hid rfl⟩
  obtain ⟨x2, HX2⟩ : ∃ x, Hid (x = xs.getD 2 0) := ⟨_, Lib.hid rfl⟩
  have c0 : w.cell? ⟨g, 0, none⟩ = some (.int .i64 x0) := by rw [HX0.out, getD_at xs 0 (by omega)]; exact blk_at hb 0 _
  have c1 : w.cell? ⟨g, 1, none⟩ = some (.int .i64 x1) := by rw [HX1.out, getD_at xs 1 (by omega)]; exact blk_at hb 1 _
  have c2 : w.cell? ⟨g, 2, none⟩ = some (.int .i64 x2) := by rw [HX2.out, getD_at xs 2 (by omega)]; exact blk_at hb 2 _
  rw [← HX0.out] at x0l x0u
  rw [← HX1.out] at x1l x1u
  have u0 : (u x0 : Int) = x0 := by unfold u; omega
  have u1 : (u x1 : Int) = x1 := by unfold u; omega
  have hN3 : 3 < N := by omega
  have HB := Lib.hid hb
  have HN := Lib.hid hN
  have HL := Lib.hid hL
  have HS := Lib.hid hs
  have HBU := Lib.hid hB
  have HGO := Lib.hid hG
  have HQ := Lib.hid hq
  have HR6 := Lib.hid r6
  have HR7 := Lib.hid r7
  have HR7b := Lib.hid r7b
  have HR10 := Lib.hid r10
  have HR11 := Lib.hid r11
  have HR12 := Lib.hid r12
  clear hb hN hL hs hx hB hG hq r6 r7 r7b r10 r11 r12 hd
  have HRO := Lib.hid (fun w => rround_any ((P.head : Int) + 1) w)
  obtain ⟨y, HY⟩ : ∃ y, Hid (y = u ((P.head : Int) + 1)) := ⟨_, Lib.hid rfl⟩
  rw [← HY.out] at HRO
  by_cases hz : x0 = P.head
  · have hz' : xs.getD 0 0 = P.head := by rw [← HX0.out]; exact hz
    have HCAS : Hid (∀ W, Blk W g 2 (ints xs).toArray → Calls Try.prog 49 #[.slice (some ⟨g, 0, none⟩) N N, .int .i64 0, .int .i64 P.head, .int .i64 y] W fun e w' => e = .returned (.bool true) ∧ w' = W.setCell ⟨g, 0, none⟩ (.int .i64 y)) := Lib.hid (fun W hW => by
      have h := rcas_any hW HN.out 0 (by have := HN.out; omega) (P.head) (y)
      rw [← getD_at xs 0 (by have := HN.out; omega), ← HX0.out] at h
      rw [if_pos hz] at h
      have hdz : decide (x0 = P.head) = true := by simpa using hz
      rw [hdz] at h
      exact h)
    have he : acc size xs P .getDone = (xs.set 0 y, { P with d := none, gs := [P.old] }) := by
      simp only [acc, if_pos hz', HY.out]
    rw [he]
    clear he hz' hz
    obtain ⟨b, HBN⟩ : ∃ b, Hid (b = w.heap.size) := ⟨_, Lib.hid rfl⟩
    obtain ⟨W, HW⟩ : ∃ W, Hid (W = (w.alloc (.cells #[.int .i64 1, .int .u8 99, .int .i64 P.g, .int .i64 P.old, .int .i64 P.head, .int .i64 P.tail, .int .i64 rm, .slice A n c, .slice C m e, .int .i64 P.steps] 44)).alloc (.cells #[.int .i64 0, .int .u8 0, .int .i64 0, .int .i64 0, .int .i64 0, .int .i64 0, .int .i64 0, .slice none 0 0, .slice none 0 0, .int .i64 0] 44)) := ⟨_, Lib.hid rfl⟩
    have hbx : Blk W b 44 #[.int .i64 1, .int .u8 99, .int .i64 P.g, .int .i64 P.old, .int .i64 P.head, .int .i64 P.tail, .int .i64 rm, .slice A n c, .slice C m e, .int .i64 P.steps] := by rw [HW.out, HBN.out]; exact (Blk.new _ _ _).alloc _
    have hwl : Blk W g 2 (ints xs).toArray := by rw [HW.out]; exact (HB.out.alloc _).alloc _
    have F4 : ∀ w', SB W w' → w'.cell? ⟨b, 4, none⟩ = some (.int .i64 P.head) := fun w' h => h.cell hbx ((hbx.cell 4).trans rfl)
    clear hbx
    simp only [rtArr]
    go_enter Try.func37, Try.ntmps37
    go_wp2_with fail
    rw [show (w.alloc (.cells #[.int .i64 1, .int .u8 99, .int .i64 P.g, .int .i64 P.old, .int .i64 P.head, .int .i64 P.tail, .int .i64 rm, .slice A n c, .slice C m e, .int .i64 P.steps] 44)).alloc (.cells #[.int .i64 0, .int .u8 0, .int .i64 0, .int .i64 0, .int .i64 0, .int .i64 0, .int .i64 0, .slice none 0 0, .slice none 0 0, .int .i64 0] 44) = W from HW.out.symm, ← HBN.out]
    have HD := Lib.hid (show SB W W.drew from (Below.refl _ _).drew)
    have HWL := Lib.hid hwl
    clear hwl
    refine region_schE (SB W) [([0, 1, 2, 3, 4, 5], 6)] [] 7 (by kernel_rfl) (by kernel_rfl) (by kernel_rfl) (fun _ _ d _ _ h => by cases d <;> exact h) HD.out ?_
    (try simp only [Act.put, List.setIfInBounds_toArray, List.set_cons_zero, List.set_cons_succ]); refine schE_seg ?_; simp only [pickOps, List.getElem?_toArray, List.getElem?_cons_zero, List.getElem?_cons_succ]; (repeat (first | go_big_quiet_skip | (go_big_quiet_want; first | (go_big_quiet_op; first | go_big_quiet_on | ((first | with_reducible refine ⟨_, fun _ _ => rfl, ?_⟩); go_big_quiet_on)) | (simp (contextual := true) [go_sem, F4]; with_reducible refine ⟨_, fun _ _ => rfl, ?_⟩; go_big_quiet_on)))); refine wpQuiet_nil ?_
    go_wp2_with fail
    refine (HRO.out _).mono ?_
    rintro e' w1 ⟨rfl, rfl⟩
    go_wp2_with fail
    refine ⟨SB W, HD.out, fun _ h => h, ?_⟩
    (try simp only [Act.put, List.setIfInBounds_toArray, List.set_cons_zero, List.set_cons_succ]); refine schE_last ?_; simp only [pickOps, List.getElem?_toArray, List.getElem?_cons_zero, List.getElem?_cons_succ]; (repeat (first | go_big_quiet_skip | (go_big_quiet_want; first | (go_big_quiet_op; first | go_big_quiet_on | ((first | with_reducible refine ⟨_, fun _ _ => rfl, ?_⟩); go_big_quiet_on)) | (simp (contextual := true) [go_sem, F4]; with_reducible refine ⟨_, fun _ _ => rfl, ?_⟩; go_big_quiet_on)))); refine wpQuiet_nil ?_
    go_wp2_with fail
    refine (HCAS.out _ HWL.out.drew).mono ?_
    rintro e' w2 ⟨rfl, rfl⟩
    have hW := HW.out
    have hbn := HBN.out
    subst hW hbn
    clear F4 HW HBN HD HWL
    go_wp2_with fail
    refine bodyPost_ret (v := .agg (rtArr ⟨1, 122, P.g, P.old, P.head, P.tail, rm, rb, [P.old], P.steps⟩ (.slice A n c) (.slice (some ⟨w.heap.size + 2, 0, none⟩) 1 1))) (by simp [results, Try.results37, go_sem, rtArr]) rfl ?_
    exact ro_drew (ro_write1 HB.out HQ.out (((Below.refl _ (w.setCell ⟨g, 0, none⟩ (.int .i64 y))).alloc (by simp) _).alloc (by simp) _) (by simp) ⟨fun _ => rfl, rfl, rfl, rfl, rfl, ⟨l1, l2, l3, l4⟩, rfl, ⟨HR7.out, HR7b.out⟩, at_none rfl rfl⟩ HBU.out rfl)
  · have hz' : ¬ xs.getD 0 0 = P.head := by rw [← HX0.out]; exact hz
    have HCAS : Hid (∀ W, Blk W g 2 (ints xs).toArray → Calls Try.prog 49 #[.slice (some ⟨g, 0, none⟩) N N, .int .i64 0, .int .i64 P.head, .int .i64 y] W fun e w' => e = .returned (.bool false) ∧ w' = W) := Lib.hid (fun W hW => by
      have h := rcas_any hW HN.out 0 (by have := HN.out; omega) (P.head) (y)
      rw [← getD_at xs 0 (by have := HN.out; omega), ← HX0.out] at h
      rw [if_neg hz] at h
      have hdz : decide (x0 = P.head) = false := by simpa using hz
      rw [hdz] at h
      exact h)
    have he : acc size xs P .getDone = (xs, { P with d := some .getHead }) := by
      simp only [acc, if_neg hz']
    rw [he]
    clear he hz' hz
    obtain ⟨b, HBN⟩ : ∃ b, Hid (b = w.heap.size) := ⟨_, Lib.hid rfl⟩
    obtain ⟨W, HW⟩ : ∃ W, Hid (W = (w.alloc (.cells #[.int .i64 1, .int .u8 99, .int .i64 P.g, .int .i64 P.old, .int .i64 P.head, .int .i64 P.tail, .int .i64 rm, .slice A n c, .slice C m e, .int .i64 P.steps] 44)).alloc (.cells #[.int .i64 0, .int .u8 0, .int .i64 0, .int .i64 0, .int .i64 0, .int .i64 0, .int .i64 0, .slice none 0 0, .slice none 0 0, .int .i64 0] 44)) := ⟨_, Lib.hid rfl⟩
    have hbx : Blk W b 44 #[.int .i64 1, .int .u8 99, .int .i64 P.g, .int .i64 P.old, .int .i64 P.head, .int .i64 P.tail, .int .i64 rm, .slice A n c, .slice C m e, .int .i64 P.steps] := by rw [HW.out, HBN.out]; exact (Blk.new _ _ _).alloc _
    have hwl : Blk W g 2 (ints xs).toArray := by rw [HW.out]; exact (HB.out.alloc _).alloc _
    have F4 : ∀ w', SB W w' → w'.cell? ⟨b, 4, none⟩ = some (.int .i64 P.head) := fun w' h => h.cell hbx ((hbx.cell 4).trans rfl)
    clear hbx
    simp only [rtArr]
    go_enter Try.func37, Try.ntmps37
    go_wp2_with fail
    rw [show (w.alloc (.cells #[.int .i64 1, .int .u8 99, .int .i64 P.g, .int .i64 P.old, .int .i64 P.head, .int .i64 P.tail, .int .i64 rm, .slice A n c, .slice C m e, .int .i64 P.steps] 44)).alloc (.cells #[.int .i64 0, .int .u8 0, .int .i64 0, .int .i64 0, .int .i64 0, .int .i64 0, .int .i64 0, .slice none 0 0, .slice none 0 0, .int .i64 0] 44) = W from HW.out.symm, ← HBN.out]
    have HD := Lib.hid (show SB W W.drew from (Below.refl _ _).drew)
    have HWL := Lib.hid hwl
    clear hwl
    refine region_schE (SB W) [([0, 1, 2, 3, 4, 5], 6)] [] 7 (by kernel_rfl) (by kernel_rfl) (by kernel_rfl) (fun _ _ d _ _ h => by cases d <;> exact h) HD.out ?_
    (try simp only [Act.put, List.setIfInBounds_toArray, List.set_cons_zero, List.set_cons_succ]); refine schE_seg ?_; simp only [pickOps, List.getElem?_toArray, List.getElem?_cons_zero, List.getElem?_cons_succ]; (repeat (first | go_big_quiet_skip | (go_big_quiet_want; first | (go_big_quiet_op; first | go_big_quiet_on | ((first | with_reducible refine ⟨_, fun _ _ => rfl, ?_⟩); go_big_quiet_on)) | (simp (contextual := true) [go_sem, F4]; with_reducible refine ⟨_, fun _ _ => rfl, ?_⟩; go_big_quiet_on)))); refine wpQuiet_nil ?_
    go_wp2_with fail
    refine (HRO.out _).mono ?_
    rintro e' w1 ⟨rfl, rfl⟩
    go_wp2_with fail
    refine ⟨SB W, HD.out, fun _ h => h, ?_⟩
    (try simp only [Act.put, List.setIfInBounds_toArray, List.set_cons_zero, List.set_cons_succ]); refine schE_last ?_; simp only [pickOps, List.getElem?_toArray, List.getElem?_cons_zero, List.getElem?_cons_succ]; (repeat (first | go_big_quiet_skip | (go_big_quiet_want; first | (go_big_quiet_op; first | go_big_quiet_on | ((first | with_reducible refine ⟨_, fun _ _ => rfl, ?_⟩); go_big_quiet_on)) | (simp (contextual := true) [go_sem, F4]; with_reducible refine ⟨_, fun _ _ => rfl, ?_⟩; go_big_quiet_on)))); refine wpQuiet_nil ?_
    go_wp2_with fail
    refine (HCAS.out _ HWL.out.drew).mono ?_
    rintro e' w2 ⟨rfl, rfl⟩
    have hW := HW.out
    have hbn := HBN.out
    subst hW hbn
    clear F4 HW HBN HD HWL
    go_wp2_with fail
    refine bodyPost_ret (v := .agg (rtArr ⟨1, 99, P.g, P.old, P.head, P.tail, rm, rb, rgot, P.steps⟩ (.slice A n c) (.slice C m e))) (by simp [results, Try.results37, go_sem, rtArr]) rfl ?_
    exact ro_drew (ro_read HB.out HQ.out (((Below.refl _ w).alloc (Nat.le_refl _) _).alloc (by simp) _) ⟨fun _ => rfl, rfl, rfl, rfl, rfl, ⟨l1, l2, l3, l4⟩, HR6.out, ⟨HR7.out, HR7b.out⟩, at_some .getHead rfl rfl rfl HR10.out HR11.out (fun h => by cases h)⟩ HBU.out HGO.out)
theorem r_grabDone (hb : Blk w g 2 (ints xs).toArray) (hN : xs.length = N) (hL : size + 3 ≤ xs.length) (hs : size = 2 ∨ size = 4 ∨ size = 8) (hx : XOk xs) (hq : ¬ q g) (hr : Rel P R) (hd : P.d = some .grabDone) (hB : RowQ w q (.slice A n c) R.buf) (hG : RowQ w q (.slice C m e) R.got) :
    Calls Try.prog 38 #[.slice (some ⟨g, 0, none⟩) N N, .int .i64 size, .agg (rtArr R (.slice A n c) (.slice C m e))] w fun e' w' => RO w g q (acc size xs P .grabDone).1 (acc size xs P .grabDone).2 e' w' := by
  obtain ⟨r1, r2, r3, r4, r5, ⟨l1, l2, l3, l4⟩, r6, ⟨r7, r7b⟩, r8⟩ := hr
  have r1 := r1 (by rw [hd]; exact Option.some_ne_none _)
  unfold AtIs at r8
  rw [hd] at r8
  obtain ⟨r8, r9, r10, r11, r12⟩ := r8
  obtain ⟨kd, pl, rg, ro, rh, rt, rm, rb, rgot, rs⟩ := R
  simp only [Ac.kd, Ac.pl] at r1 r2 r3 r4 r5 r6 r7 r8 r9 r10
  subst r1 r2 r3 r4 r5 r8 r9
  have x0l := hx.1
  have x0u := hx.2.1
  have x1l := hx.2.2.1
  have x1u := hx.2.2.2
  have HXK := Lib.hid hx
  have hg := hb.lt
  obtain ⟨x0, HX0⟩ : ∃ x, Hid (x = xs.getD 0 0) := ⟨_, Lib.hid rfl⟩
  obtain ⟨x1, HX1⟩ : ∃ x, Hid (x = xs.getD 1 0) := ⟨_, Lib.hid rfl⟩
  obtain ⟨x2, HX2⟩ : ∃ x, Hid (x = xs.getD 2 0) := ⟨_, Lib.hid rfl⟩
  have c0 : w.cell? ⟨g, 0, none⟩ = some (.int .i64 x0) := by rw [HX0.out, getD_at xs 0 (by omega)]; exact blk_at hb 0 _
  have c1 : w.cell? ⟨g, 1, none⟩ = some (.int .i64 x1) := by rw [HX1.out, getD_at xs 1 (by omega)]; exact blk_at hb 1 _
  have c2 : w.cell? ⟨g, 2, none⟩ = some (.int .i64 x2) := by rw [HX2.out, getD_at xs 2 (by omega)]; exact blk_at hb 2 _
  rw [← HX0.out] at x0l x0u
  rw [← HX1.out] at x1l x1u
  have u0 : (u x0 : Int) = x0 := by unfold u; omega
  have u1 : (u x1 : Int) = x1 := by unfold u; omega
  have hN3 : 3 < N := by omega
  have HB := Lib.hid hb
  have HN := Lib.hid hN
  have HL := Lib.hid hL
  have HS := Lib.hid hs
  have HBU := Lib.hid hB
  have HGO := Lib.hid hG
  have HQ := Lib.hid hq
  have HR6 := Lib.hid r6
  have HR7 := Lib.hid r7
  have HR7b := Lib.hid r7b
  have HR10 := Lib.hid r10
  have HR11 := Lib.hid r11
  have HR12 := Lib.hid r12
  clear hb hN hL hs hx hB hG hq r6 r7 r7b r10 r11 r12 hd
  obtain ⟨t1, t2⟩ := HR12.out rfl
  subst t1 t2
  have HRO := Lib.hid (fun w => rround_any ((P.head : Int) + P.many) w)
  obtain ⟨y, HY⟩ : ∃ y, Hid (y = u ((P.head : Int) + P.many)) := ⟨_, Lib.hid rfl⟩
  rw [← HY.out] at HRO
  by_cases hz : x0 = P.head
  · have hz' : xs.getD 0 0 = P.head := by rw [← HX0.out]; exact hz
    have HCAS : Hid (∀ W, Blk W g 2 (ints xs).toArray → Calls Try.prog 49 #[.slice (some ⟨g, 0, none⟩) N N, .int .i64 0, .int .i64 P.head, .int .i64 y] W fun e w' => e = .returned (.bool true) ∧ w' = W.setCell ⟨g, 0, none⟩ (.int .i64 y)) := Lib.hid (fun W hW => by
      have h := rcas_any hW HN.out 0 (by have := HN.out; omega) (P.head) (y)
      rw [← getD_at xs 0 (by have := HN.out; omega), ← HX0.out] at h
      rw [if_pos hz] at h
      have hdz : decide (x0 = P.head) = true := by simpa using hz
      rw [hdz] at h
      exact h)
    have he : acc size xs P .grabDone = (xs.set 0 y, { P with d := none, gs := P.bs }) := by
      simp only [acc, if_pos hz', HY.out]
    rw [he]
    clear he hz' hz
    obtain ⟨b, HBN⟩ : ∃ b, Hid (b = w.heap.size) := ⟨_, Lib.hid rfl⟩
    obtain ⟨W, HW⟩ : ∃ W, Hid (W = (w.alloc (.cells #[.int .i64 2, .int .u8 97, .int .i64 P.g, .int .i64 P.old, .int .i64 P.head, .int .i64 P.tail, .int .i64 P.many, .slice A n c, .slice C m e, .int .i64 P.steps] 44)).alloc (.cells #[.int .i64 0, .int .u8 0, .int .i64 0, .int .i64 0, .int .i64 0, .int .i64 0, .int .i64 0, .slice none 0 0, .slice none 0 0, .int .i64 0] 44)) := ⟨_, Lib.hid rfl⟩
    have hbx : Blk W b 44 #[.int .i64 2, .int .u8 97, .int .i64 P.g, .int .i64 P.old, .int .i64 P.head, .int .i64 P.tail, .int .i64 P.many, .slice A n c, .slice C m e, .int .i64 P.steps] := by rw [HW.out, HBN.out]; exact (Blk.new _ _ _).alloc _
    have hwl : Blk W g 2 (ints xs).toArray := by rw [HW.out]; exact (HB.out.alloc _).alloc _
    have F4 : ∀ w', SB W w' → w'.cell? ⟨b, 4, none⟩ = some (.int .i64 P.head) := fun w' h => h.cell hbx ((hbx.cell 4).trans rfl)
    have F6 : ∀ w', SB W w' → w'.cell? ⟨b, 6, none⟩ = some (.int .i64 P.many) := fun w' h => h.cell hbx ((hbx.cell 6).trans rfl)
    clear hbx
    simp only [rtArr]
    go_enter Try.func38, Try.ntmps38
    go_wp2_with fail
    rw [show (w.alloc (.cells #[.int .i64 2, .int .u8 97, .int .i64 P.g, .int .i64 P.old, .int .i64 P.head, .int .i64 P.tail, .int .i64 P.many, .slice A n c, .slice C m e, .int .i64 P.steps] 44)).alloc (.cells #[.int .i64 0, .int .u8 0, .int .i64 0, .int .i64 0, .int .i64 0, .int .i64 0, .int .i64 0, .slice none 0 0, .slice none 0 0, .int .i64 0] 44) = W from HW.out.symm, ← HBN.out]
    have HD := Lib.hid (show SB W W.drew from (Below.refl _ _).drew)
    have HWL := Lib.hid hwl
    clear hwl
    refine region_schE (SB W) [([0, 1, 2, 3, 4, 5, 6, 7], 8)] [] 9 (by kernel_rfl) (by kernel_rfl) (by kernel_rfl) (fun _ _ d _ _ h => by cases d <;> exact h) HD.out ?_
    (try simp only [Act.put, List.setIfInBounds_toArray, List.set_cons_zero, List.set_cons_succ]); refine schE_seg ?_; simp only [pickOps, List.getElem?_toArray, List.getElem?_cons_zero, List.getElem?_cons_succ]; (repeat (first | go_big_quiet_skip | (go_big_quiet_want; first | (go_big_quiet_op; first | go_big_quiet_on | ((first | with_reducible refine ⟨_, fun _ _ => rfl, ?_⟩); go_big_quiet_on)) | (simp (contextual := true) [go_sem, F4, F6]; with_reducible refine ⟨_, fun _ _ => rfl, ?_⟩; go_big_quiet_on)))); refine wpQuiet_nil ?_
    go_wp2_with fail
    refine (HRO.out _).mono ?_
    rintro e' w1 ⟨rfl, rfl⟩
    go_wp2_with fail
    refine ⟨SB W, HD.out, fun _ h => h, ?_⟩
    (try simp only [Act.put, List.setIfInBounds_toArray, List.set_cons_zero, List.set_cons_succ]); refine schE_last ?_; simp only [pickOps, List.getElem?_toArray, List.getElem?_cons_zero, List.getElem?_cons_succ]; (repeat (first | go_big_quiet_skip | (go_big_quiet_want; first | (go_big_quiet_op; first | go_big_quiet_on | ((first | with_reducible refine ⟨_, fun _ _ => rfl, ?_⟩); go_big_quiet_on)) | (simp (contextual := true) [go_sem, F4]; with_reducible refine ⟨_, fun _ _ => rfl, ?_⟩; go_big_quiet_on)))); refine wpQuiet_nil ?_
    go_wp2_with fail
    refine (HCAS.out _ HWL.out.drew).mono ?_
    rintro e' w2 ⟨rfl, rfl⟩
    have hW := HW.out
    have hbn := HBN.out
    subst hW hbn
    clear F4 F6 HW HBN HD HWL
    go_wp2_with fail
    refine bodyPost_ret (v := .agg (rtArr ⟨2, 122, P.g, P.old, P.head, P.tail, P.many, P.bs, P.bs, P.steps⟩ (.slice A n c) (.slice A n c))) (by simp [results, Try.results38, go_sem, rtArr]) rfl ?_
    exact ro_drew (ro_write HB.out HQ.out (((Below.refl _ (w.setCell ⟨g, 0, none⟩ (.int .i64 y))).alloc (by simp) _).alloc (by simp) _) ⟨fun _ => rfl, rfl, rfl, rfl, rfl, ⟨l1, l2, l3, l4⟩, rfl, ⟨HR7.out, HR7b.out⟩, at_none rfl rfl⟩ HBU.out HBU.out)
  · have hz' : ¬ xs.getD 0 0 = P.head := by rw [← HX0.out]; exact hz
    have HCAS : Hid (∀ W, Blk W g 2 (ints xs).toArray → Calls Try.prog 49 #[.slice (some ⟨g, 0, none⟩) N N, .int .i64 0, .int .i64 P.head, .int .i64 y] W fun e w' => e = .returned (.bool false) ∧ w' = W) := Lib.hid (fun W hW => by
      have h := rcas_any hW HN.out 0 (by have := HN.out; omega) (P.head) (y)
      rw [← getD_at xs 0 (by have := HN.out; omega), ← HX0.out] at h
      rw [if_neg hz] at h
      have hdz : decide (x0 = P.head) = false := by simpa using hz
      rw [hdz] at h
      exact h)
    have he : acc size xs P .grabDone = (xs, { P with d := some .grabHead }) := by
      simp only [acc, if_neg hz']
    rw [he]
    clear he hz' hz
    obtain ⟨b, HBN⟩ : ∃ b, Hid (b = w.heap.size) := ⟨_, Lib.hid rfl⟩
    obtain ⟨W, HW⟩ : ∃ W, Hid (W = (w.alloc (.cells #[.int .i64 2, .int .u8 97, .int .i64 P.g, .int .i64 P.old, .int .i64 P.head, .int .i64 P.tail, .int .i64 P.many, .slice A n c, .slice C m e, .int .i64 P.steps] 44)).alloc (.cells #[.int .i64 0, .int .u8 0, .int .i64 0, .int .i64 0, .int .i64 0, .int .i64 0, .int .i64 0, .slice none 0 0, .slice none 0 0, .int .i64 0] 44)) := ⟨_, Lib.hid rfl⟩
    have hbx : Blk W b 44 #[.int .i64 2, .int .u8 97, .int .i64 P.g, .int .i64 P.old, .int .i64 P.head, .int .i64 P.tail, .int .i64 P.many, .slice A n c, .slice C m e, .int .i64 P.steps] := by rw [HW.out, HBN.out]; exact (Blk.new _ _ _).alloc _
    have hwl : Blk W g 2 (ints xs).toArray := by rw [HW.out]; exact (HB.out.alloc _).alloc _
    have F4 : ∀ w', SB W w' → w'.cell? ⟨b, 4, none⟩ = some (.int .i64 P.head) := fun w' h => h.cell hbx ((hbx.cell 4).trans rfl)
    have F6 : ∀ w', SB W w' → w'.cell? ⟨b, 6, none⟩ = some (.int .i64 P.many) := fun w' h => h.cell hbx ((hbx.cell 6).trans rfl)
    clear hbx
    simp only [rtArr]
    go_enter Try.func38, Try.ntmps38
    go_wp2_with fail
    rw [show (w.alloc (.cells #[.int .i64 2, .int .u8 97, .int .i64 P.g, .int .i64 P.old, .int .i64 P.head, .int .i64 P.tail, .int .i64 P.many, .slice A n c, .slice C m e, .int .i64 P.steps] 44)).alloc (.cells #[.int .i64 0, .int .u8 0, .int .i64 0, .int .i64 0, .int .i64 0, .int .i64 0, .int .i64 0, .slice none 0 0, .slice none 0 0, .int .i64 0] 44) = W from HW.out.symm, ← HBN.out]
    have HD := Lib.hid (show SB W W.drew from (Below.refl _ _).drew)
    have HWL := Lib.hid hwl
    clear hwl
    refine region_schE (SB W) [([0, 1, 2, 3, 4, 5, 6, 7], 8)] [] 9 (by kernel_rfl) (by kernel_rfl) (by kernel_rfl) (fun _ _ d _ _ h => by cases d <;> exact h) HD.out ?_
    (try simp only [Act.put, List.setIfInBounds_toArray, List.set_cons_zero, List.set_cons_succ]); refine schE_seg ?_; simp only [pickOps, List.getElem?_toArray, List.getElem?_cons_zero, List.getElem?_cons_succ]; (repeat (first | go_big_quiet_skip | (go_big_quiet_want; first | (go_big_quiet_op; first | go_big_quiet_on | ((first | with_reducible refine ⟨_, fun _ _ => rfl, ?_⟩); go_big_quiet_on)) | (simp (contextual := true) [go_sem, F4, F6]; with_reducible refine ⟨_, fun _ _ => rfl, ?_⟩; go_big_quiet_on)))); refine wpQuiet_nil ?_
    go_wp2_with fail
    refine (HRO.out _).mono ?_
    rintro e' w1 ⟨rfl, rfl⟩
    go_wp2_with fail
    refine ⟨SB W, HD.out, fun _ h => h, ?_⟩
    (try simp only [Act.put, List.setIfInBounds_toArray, List.set_cons_zero, List.set_cons_succ]); refine schE_last ?_; simp only [pickOps, List.getElem?_toArray, List.getElem?_cons_zero, List.getElem?_cons_succ]; (repeat (first | go_big_quiet_skip | (go_big_quiet_want; first | (go_big_quiet_op; first | go_big_quiet_on | ((first | with_reducible refine ⟨_, fun _ _ => rfl, ?_⟩); go_big_quiet_on)) | (simp (contextual := true) [go_sem, F4]; with_reducible refine ⟨_, fun _ _ => rfl, ?_⟩; go_big_quiet_on)))); refine wpQuiet_nil ?_
    go_wp2_with fail
    refine (HCAS.out _ HWL.out.drew).mono ?_
    rintro e' w2 ⟨rfl, rfl⟩
    have hW := HW.out
    have hbn := HBN.out
    subst hW hbn
    clear F4 F6 HW HBN HD HWL
    go_wp2_with fail
    refine bodyPost_ret (v := .agg (rtArr ⟨2, 97, P.g, P.old, P.head, P.tail, P.many, P.bs, rgot, P.steps⟩ (.slice A n c) (.slice C m e))) (by simp [results, Try.results38, go_sem, rtArr]) rfl ?_
    exact ro_drew (ro_read HB.out HQ.out (((Below.refl _ w).alloc (Nat.le_refl _) _).alloc (by simp) _) ⟨fun _ => rfl, rfl, rfl, rfl, rfl, ⟨l1, l2, l3, l4⟩, HR6.out, ⟨HR7.out, HR7b.out⟩, at_some .grabHead rfl rfl rfl HR10.out HR11.out (fun h => by cases h)⟩ HBU.out HGO.out)
end
end Go.Proofs.Ythnhjhlpimgkiaa

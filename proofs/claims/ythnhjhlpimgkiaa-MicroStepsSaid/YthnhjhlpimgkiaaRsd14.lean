/-
  The reference's access spillDone (printed by wip/genrsd.py).
-/
import Derived.Test.YthnhjhlpimgkiaaRsp14
import Derived.Test.YthnhjhlpimgkiaaSchT
namespace Go.Proofs.Ythnhjhlpimgkiaa
open Go.RowKit
/-- What is read of the task. -/
def SD14 (b : Nat) (x : Int) (A : Option Addr) (n c : Nat) (w : World) : Prop := w.cell? ⟨b, 2, none⟩ = some (.int .i64 x) ∧ w.cell? ⟨b, 7, none⟩ = some (.slice A n c)
theorem ro_spill {w w' : World} {g b base n c i : Nat} {q : Nat → Prop} {xs l : List Int} {x : Int} {A : Option Addr} {P' : Pt} {R' : Rt} {B' : Value} (hb : Blk w g 2 (ints xs).toArray) (hq : ¬ q g) (hbw : b = w.heap.size) (h2 : Below b (w.setCell ⟨g, i, none⟩ (.int .i64 x)) w') (hrel : Rel P' R') (hB : RowQ w q B' R'.buf) (hO : Own w' base 2 1 A n c (ints l)) (hbase : b ≤ base) (hl : R'.got = l) :
    RO w g q (xs.set i x) P' (.returned (.agg (rtArr R' B' (.slice A n c)))) w' := by
  subst hbw
  exact ro_gen (ro_blk hb h2) (ro_mv h2) hrel (hB.mv (ro_mv h2) (not_q hq)) (by rw [hl]; exact own_rowQ hO hbase)
theorem cell_blk1 {w : World} {g : Nat} {x : Int} (h : Blk w g 2 #[.int .i64 x]) : ∀ j u, (ints [x])[j]? = some u → w.cell? ((⟨g, 0, none⟩ : Addr).add j) = some u := by
  intro j u hu
  rw [Addr.add_lit, Nat.zero_add, h.cell j]
  simpa [ints] using hu
theorem sd_facts {w w7 w8 : World} {b base n c : Nat} {T : TypeId} {X z : Array Value} {A : Option Addr} {l : List Value} {v : Value} (hx : Blk w7 b T X) (hz : Blk w7 (b + 1) T z) (hb : Below b w w7) (ho : Own w7 base 2 1 A n c l) (hbb : b < base) (h8 : w8 = w7.setCell ⟨b, 8, none⟩ v) :
    Blk w8 b T (X.setIfInBounds 8 v) ∧ Blk w8 (b + 1) T z ∧ Below b w w8 ∧ Own w8 base 2 1 A n c l ∧ ∀ i, i ≠ 8 → w8.cell? ⟨b, i, none⟩ = w7.cell? ⟨b, i, none⟩ := by
  subst h8
  refine ⟨hx.set_ 8 v, hz.far (by simp) _, hb.setCell (by simp) _, ho.setCell _ _ (ho.ne_lt (by simpa using hbb)), fun i hi => ?_⟩
  rw [(hx.set_ 8 v).cell i, hx.cell i, Array.getElem?_setIfInBounds, if_neg (fun e => hi e.symm)]
section
variable {w : World} {g N size : Nat} {q : Nat → Prop} {xs : List Int} {P : Pt} {R : Rt} {A C : Option Addr} {n c m e : Nat}
theorem r_spillDone (hb : Blk w g 2 (ints xs).toArray) (hN : xs.length = N) (hL : size + 3 ≤ xs.length) (hs : size = 2 ∨ size = 4 ∨ size = 8) (hx : XOk xs) (hq : ¬ q g) (hr : Rel P R) (hd : P.d = some .spillDone) (hB : RowQ w q (.slice A n c) R.buf) (hG : RowQ w q (.slice C m e) R.got) :
    Calls Try.prog 36 #[.slice (some ⟨g, 0, none⟩) N N, .int .i64 size, .agg (rtArr R (.slice A n c) (.slice C m e))] w fun e' w' => RO w g q (acc size xs P .spillDone).1 (acc size xs P .spillDone).2 e' w' := by
  obtain ⟨r1, r2, r3, r4, r5, ⟨l1, l2, l3, l4⟩, r6, ⟨r7, r7b⟩, r8⟩ := hr
  have r1 := r1 (by rw [hd]; exact Option.some_ne_none _)
  unfold AtIs at r8
  rw [hd] at r8
  obtain ⟨r8, r9, r10, r11, r12⟩ := r8
  obtain ⟨kd, pl, rg, ro, rh, rt, rm, rb, rgot, rs⟩ := R
  simp only [Ac.kd, Ac.pl] at r1 r2 r3 r4 r5 r6 r7 r8 r9 r10
  subst r1 r2 r3 r4 r5 r8 r9
  have x0l := hx.1
  have x0u := hx.2.1
  have x1l := hx.2.2.1
  have x1u := hx.2.2.2
  have HXK := Lib.hid hx
  have hg := hb.lt
  obtain ⟨x0, HX0⟩ : ∃ x, Hid (x = xs.getD 0 0) := ⟨_, Lib.hid rfl⟩
  obtain ⟨x1, HX1⟩ : ∃ x, Hid (x = xs.getD 1 0) := ⟨_, Lib.hid rfl⟩
  obtain ⟨x2, HX2⟩ : ∃ x, Hid (x = xs.getD 2 0) := ⟨_, Lib.hid rfl⟩
  have c0 : w.cell? ⟨g, 0, none⟩ = some (.int .i64 x0) := by rw [HX0.out, getD_at xs 0 (by omega)]; exact blk_at hb 0 _
  have c1 : w.cell? ⟨g, 1, none⟩ = some (.int .i64 x1) := by rw [HX1.out, getD_at xs 1 (by omega)]; exact blk_at hb 1 _
  have c2 : w.cell? ⟨g, 2, none⟩ = some (.int .i64 x2) := by rw [HX2.out, getD_at xs 2 (by omega)]; exact blk_at hb 2 _
  rw [← HX0.out] at x0l x0u
  rw [← HX1.out] at x1l x1u
  have u0 : (u x0 : Int) = x0 := by unfold u; omega
  have u1 : (u x1 : Int) = x1 := by unfold u; omega
  have hN3 : 3 < N := by omega
  have HB := Lib.hid hb
  have HN := Lib.hid hN
  have HL := Lib.hid hL
  have HS := Lib.hid hs
  have HBU := Lib.hid hB
  have HGO := Lib.hid hG
  have HQ := Lib.hid hq
  have HR6 := Lib.hid r6
  have HR7 := Lib.hid r7
  have HR7b := Lib.hid r7b
  have HR10 := Lib.hid r10
  have HR11 := Lib.hid r11
  have HR12 := Lib.hid r12
  clear hb hN hL hs hx hB hG hq r6 r7 r7b r10 r11 r12 hd
  obtain ⟨t1, t2⟩ := HR12.out rfl
  subst t1 t2
  have HRO := Lib.hid (fun w => rround_any ((P.head : Int) + P.many) w)
  obtain ⟨y, HY⟩ : ∃ y, Hid (y = u ((P.head : Int) + P.many)) := ⟨_, Lib.hid rfl⟩
  rw [← HY.out] at HRO
  by_cases hz : x0 = P.head
  · have hz' : xs.getD 0 0 = P.head := by rw [← HX0.out]; exact hz
    have HCAS : Hid (∀ W, Blk W g 2 (ints xs).toArray → Calls Try.prog 49 #[.slice (some ⟨g, 0, none⟩) N N, .int .i64 0, .int .i64 P.head, .int .i64 y] W fun e w' => e = .returned (.bool true) ∧ w' = W.setCell ⟨g, 0, none⟩ (.int .i64 y)) := Lib.hid (fun W hW => by
      have h := rcas_any hW HN.out 0 (by have := HN.out; omega) (P.head) (y)
      rw [← getD_at xs 0 (by have := HN.out; omega), ← HX0.out] at h
      rw [if_pos hz] at h
      have hdz : decide (x0 = P.head) = true := by simpa using hz
      rw [hdz] at h
      exact h)
    have he : acc size xs P .spillDone = (xs.set 0 y, { P with d := none, gs := P.bs ++ [P.g] }) := by
      simp only [acc, if_pos hz', HY.out]
    rw [he]
    clear he hz' hz
    obtain ⟨b, HBN⟩ : ∃ b, Hid (b = w.heap.size) := ⟨_, Lib.hid rfl⟩
    obtain ⟨W, HW⟩ : ∃ W, Hid (W = (w.alloc (.cells #[.int .i64 0, .int .u8 99, .int .i64 P.g, .int .i64 P.old, .int .i64 P.head, .int .i64 P.tail, .int .i64 P.many, .slice A n c, .slice C m e, .int .i64 P.steps] 44)).alloc (.cells #[.int .i64 0, .int .u8 0, .int .i64 0, .int .i64 0, .int .i64 0, .int .i64 0, .int .i64 0, .slice none 0 0, .slice none 0 0, .int .i64 0] 44)) := ⟨_, Lib.hid rfl⟩
    have hbx : Blk W b 44 #[.int .i64 0, .int .u8 99, .int .i64 P.g, .int .i64 P.old, .int .i64 P.head, .int .i64 P.tail, .int .i64 P.many, .slice A n c, .slice C m e, .int .i64 P.steps] := by rw [HW.out, HBN.out]; exact (Blk.new _ _ _).alloc _
    have hwl : Blk W g 2 (ints xs).toArray := by rw [HW.out]; exact (HB.out.alloc _).alloc _
    have F4 : ∀ w', SB W w' → w'.cell? ⟨b, 4, none⟩ = some (.int .i64 P.head) := fun w' h => h.cell hbx ((hbx.cell 4).trans rfl)
    have F6 : ∀ w', SB W w' → w'.cell? ⟨b, 6, none⟩ = some (.int .i64 P.many) := fun w' h => h.cell hbx ((hbx.cell 6).trans rfl)
    clear hbx
    simp only [rtArr]
    go_enter Try.func36, Try.ntmps36
    go_wp2_with fail
    rw [show (w.alloc (.cells #[.int .i64 0, .int .u8 99, .int .i64 P.g, .int .i64 P.old, .int .i64 P.head, .int .i64 P.tail, .int .i64 P.many, .slice A n c, .slice C m e, .int .i64 P.steps] 44)).alloc (.cells #[.int .i64 0, .int .u8 0, .int .i64 0, .int .i64 0, .int .i64 0, .int .i64 0, .int .i64 0, .slice none 0 0, .slice none 0 0, .int .i64 0] 44) = W from HW.out.symm, ← HBN.out]
    have HD := Lib.hid (show SB W W.drew from (Below.refl _ _).drew)
    have HWL := Lib.hid hwl
    clear hwl
    refine region_schE (SB W) [([0, 1, 2, 3, 4, 5, 6, 7], 8)] [] 9 (by kernel_rfl) (by kernel_rfl) (by kernel_rfl) (fun _ _ d _ _ h => by cases d <;> exact h) HD.out ?_
    (try simp only [Act.put, List.setIfInBounds_toArray, List.set_cons_zero, List.set_cons_succ]); refine schE_seg ?_; simp only [pickOps, List.getElem?_toArray, List.getElem?_cons_zero, List.getElem?_cons_succ]; (repeat (first | go_big_quiet_skip | (go_big_quiet_want; first | (go_big_quiet_op; first | go_big_quiet_on | ((first | with_reducible refine ⟨_, fun _ _ => rfl, ?_⟩); go_big_quiet_on)) | (simp (contextual := true) [go_sem, F4, F6]; with_reducible refine ⟨_, fun _ _ => rfl, ?_⟩; go_big_quiet_on)))); refine wpQuiet_nil ?_
    go_wp2_with fail
    refine (HRO.out _).mono ?_
    rintro e' w1 ⟨rfl, rfl⟩
    go_wp2_with fail
    refine ⟨SB W, HD.out, fun _ h => h, ?_⟩
    (try simp only [Act.put, List.setIfInBounds_toArray, List.set_cons_zero, List.set_cons_succ]); refine schE_last ?_; simp only [pickOps, List.getElem?_toArray, List.getElem?_cons_zero, List.getElem?_cons_succ]; (repeat (first | go_big_quiet_skip | (go_big_quiet_want; first | (go_big_quiet_op; first | go_big_quiet_on | ((first | with_reducible refine ⟨_, fun _ _ => rfl, ?_⟩); go_big_quiet_on)) | (simp (contextual := true) [go_sem, F4]; with_reducible refine ⟨_, fun _ _ => rfl, ?_⟩; go_big_quiet_on)))); refine wpQuiet_nil ?_
    go_wp2_with fail
    refine (HCAS.out _ HWL.out.drew).mono ?_
    rintro e' w2 ⟨rfl, rfl⟩
    have hW := HW.out
    have hbn := HBN.out
    subst hW hbn
    clear F4 F6 HW HBN HD HWL
    go_wp2_with fail
    obtain ⟨b, HBN⟩ : ∃ b, Hid (b = w.heap.size) := ⟨_, Lib.hid rfl⟩
    obtain ⟨W, HW⟩ : ∃ W, Hid (W = (((w.setCell ⟨g, 0, none⟩ (.int .i64 y)).alloc (.cells #[.int .i64 0, .int .u8 122, .int .i64 P.g, .int .i64 P.old, .int .i64 P.head, .int .i64 P.tail, .int .i64 P.many, .slice A n c, .slice C m e, .int .i64 P.steps] 44)).alloc (.cells #[.int .i64 0, .int .u8 0, .int .i64 0, .int .i64 0, .int .i64 0, .int .i64 0, .int .i64 0, .slice none 0 0, .slice none 0 0, .int .i64 0] 44)).drew) := ⟨_, Lib.hid rfl⟩
    rw [show (((w.setCell ⟨g, 0, none⟩ (.int .i64 y)).alloc (.cells #[.int .i64 0, .int .u8 122, .int .i64 P.g, .int .i64 P.old, .int .i64 P.head, .int .i64 P.tail, .int .i64 P.many, .slice A n c, .slice C m e, .int .i64 P.steps] 44)).alloc (.cells #[.int .i64 0, .int .u8 0, .int .i64 0, .int .i64 0, .int .i64 0, .int .i64 0, .int .i64 0, .slice none 0 0, .slice none 0 0, .int .i64 0] 44)).drew = W from HW.out.symm, ← HBN.out]
    have hsz : W.heap.size = b + 2 := by rw [HW.out, HBN.out]; show ((((w.setCell _ _).alloc _).alloc _)).heap.size = _; rw [World.size_alloc, World.size_alloc]; simp
    have hbel : Below b (w.setCell ⟨g, 0, none⟩ (.int .i64 y)) W := by rw [HW.out, HBN.out]; exact (((Below.refl _ _).alloc (by simp) _).alloc (by simp) _).drew
    have hbx : Blk W b 44 #[.int .i64 0, .int .u8 122, .int .i64 P.g, .int .i64 P.old, .int .i64 P.head, .int .i64 P.tail, .int .i64 P.many, .slice A n c, .slice C m e, .int .i64 P.steps] := by
      have h := ((Blk.new (w.setCell ⟨g, 0, none⟩ (.int .i64 y)) 44 #[.int .i64 0, .int .u8 122, .int .i64 P.g, .int .i64 P.old, .int .i64 P.head, .int .i64 P.tail, .int .i64 P.many, .slice A n c, .slice C m e, .int .i64 P.steps]).alloc (.cells #[.int .i64 0, .int .u8 0, .int .i64 0, .int .i64 0, .int .i64 0, .int .i64 0, .int .i64 0, .slice none 0 0, .slice none 0 0, .int .i64 0] 44)).drew
      rw [show (w.setCell ⟨g, 0, none⟩ (.int .i64 y)).heap.size = w.heap.size by simp, ← HBN.out] at h
      rw [HW.out]
      exact h
    have hbz : Blk W (b + 1) 44 z44 := by
      have h := (Blk.new ((w.setCell ⟨g, 0, none⟩ (.int .i64 y)).alloc (.cells #[.int .i64 0, .int .u8 122, .int .i64 P.g, .int .i64 P.old, .int .i64 P.head, .int .i64 P.tail, .int .i64 P.many, .slice A n c, .slice C m e, .int .i64 P.steps] 44)) 44 z44).drew
      rw [World.size_alloc, show (w.setCell ⟨g, 0, none⟩ (.int .i64 y)).heap.size = w.heap.size by simp, ← HBN.out] at h
      rw [HW.out]
      exact h
    obtain ⟨i0, hi0, hz0, hz1, hz2⟩ := info_parts Try.info2
    have HI := Lib.hid hi0
    have HZ0 := Lib.hid hz0
    have HZ1 := Lib.hid hz1
    have HZ2 := Lib.hid hz2
    have hrq : RowQ W (Qn q w) (.slice A n c) P.bs := HBU.out.mv (ro_mv (show Below w.heap.size (w.setCell ⟨g, 0, none⟩ (.int .i64 y)) W by rw [← HBN.out]; exact hbel)) (not_q HQ.out)
    obtain ⟨hrow, hln⟩ := hrq.row
    have HROW2 := Lib.hid hrow
    have HLN := Lib.hid (show (ints P.bs).length = n * 1 by simp [ints, hln])
    have HONE := Lib.hid (ints_ones P.bs)
    have hn9 : n ≤ 1000 := by have := HR7b.out; omega
    have HBX := Lib.hid hbx
    have HBZ := Lib.hid hbz
    have HBEL := Lib.hid hbel
    have HSZ := Lib.hid hsz
    have HSS := Lib.hid (show ∀ w', Below W.heap.size W w' → (SD14 b P.g A n c) w' from fun w' h => ⟨((hbx.below h hbx.lt).cell 2).trans rfl, ((hbx.below h hbx.lt).cell 7).trans rfl⟩)
    have F2 : ∀ w', (SD14 b P.g A n c) w' → w'.cell? ⟨b, 2, none⟩ = some (.int .i64 P.g) := fun w' h => h.1
    have F7 : ∀ w', (SD14 b P.g A n c) w' → w'.cell? ⟨b, 7, none⟩ = some (.slice A n c) := fun w' h => h.2
    clear hi0 hz0 hz1 hz2 hrq hrow hln hbx hbz hbel hsz
    refine region_tree (SD14 b P.g A n c) (.two [1, 2, 4, 5] 0 (.two [] 3 (.one [] 6 (.one [] 7 (.one [8] 9 (.fin [])))) 6 (.one [] 3 (.one [] 7 (.one [8] 9 (.fin []))))) 6 (.one [] 0 (.one [] 3 (.one [] 7 (.one [8] 9 (.fin [])))))) (by kernel_rfl) (by kernel_rfl) (by kernel_rfl) (fun _ _ d _ _ h => by cases d <;> exact h) (HSS.out _ (Below.refl _ _).drew) ?_
    (try simp only [Act.put, List.setIfInBounds_toArray, List.set_cons_zero, List.set_cons_succ]); refine tree_two ?_; simp only [pickOps, List.getElem?_toArray, List.getElem?_cons_zero, List.getElem?_cons_succ]; (repeat (first | go_big_quiet_skip | (go_big_quiet_want; first | (go_big_quiet_op; first | go_big_quiet_on | ((first | with_reducible refine ⟨_, fun _ _ => rfl, ?_⟩); go_big_quiet_on)) | (simp (contextual := true) [go_sem, F2, F7]; with_reducible refine ⟨_, fun _ _ => rfl, ?_⟩; go_big_quiet_on)))); refine wpQuiet_nil ?_
    refine ⟨?_, ?_⟩
    · go_wp2_with fail
      obtain ⟨w1, HW1⟩ : ∃ w1, Hid (w1 = (W.alloc (.cells #[] 2)).drew) := ⟨_, Lib.hid rfl⟩
      rw [show (W.alloc (.cells #[] 2)).drew = w1 from HW1.out.symm]
      have HB1 := Lib.hid (show Below W.heap.size W w1 by rw [HW1.out]; exact ((Below.refl W.heap.size W).alloc (Nat.le_refl _) _).drew)
      refine ⟨(SD14 b P.g A n c), HSS.out _ HB1.out, fun _ h => h, ?_⟩
      (try simp only [Act.put, List.setIfInBounds_toArray, List.set_cons_zero, List.set_cons_succ]); refine tree_two ?_; simp only [pickOps, List.getElem?_toArray, List.getElem?_cons_zero, List.getElem?_cons_succ]; (repeat (first | go_big_quiet_skip | (go_big_quiet_want; first | (go_big_quiet_op; first | go_big_quiet_on | ((first | with_reducible refine ⟨_, fun _ _ => rfl, ?_⟩); go_big_quiet_on)) | (simp (contextual := true) [go_sem, F2]; with_reducible refine ⟨_, fun _ _ => rfl, ?_⟩; go_big_quiet_on)))); refine wpQuiet_nil ?_
      refine ⟨?_, ?_⟩
      · skip
        go_wp2_with (at_builtin; go_must (refine wpList_append_row _ rfl _ _ 31 rfl W.heap.size 2 i0 _ 1 8 Try.underlying31 HI.out HZ0.out HZ1.out HZ2.out rfl (by decide) _ 0 0 [] rfl (show Own w1 W.heap.size 2 1 (some ⟨W.heap.size, 0, none⟩) 0 0 [] by rw [HW1.out]; exact World.ownsRow_made W #[] 0 (Nat.le_refl _) (Nat.zero_le _) (by simp)) A n c W.heap.size (ints P.bs) rfl HLN.out (HROW2.out.below HB1.out) HONE.out (by unfold maxLen; omega) (by omega) (by have := HB1.out.size; omega) ?_); intro A5 c5 w5 hown hgrow hat; simp only [Nat.zero_add, List.nil_append] at hown ⊢)
        have HB5 := Lib.hid (HB1.out.grown hgrow HB1.out.size (by intro j hj; simp [ob] at hj; omega))
        have HO5 := Lib.hid hown
        clear hown hgrow hat
        refine ⟨(SD14 b P.g A n c), HSS.out _ HB5.out, fun _ h => h, ?_⟩
        (try simp only [Act.put, List.setIfInBounds_toArray, List.set_cons_zero, List.set_cons_succ]); refine tree_one ?_; simp only [pickOps, List.getElem?_toArray, List.getElem?_cons_zero, List.getElem?_cons_succ]; (repeat (first | go_big_quiet_skip | (go_big_quiet_want; first | (go_big_quiet_op; first | go_big_quiet_on | ((first | with_reducible refine ⟨_, fun _ _ => rfl, ?_⟩); go_big_quiet_on)) | (simp (contextual := true) [go_sem, F2]; with_reducible refine ⟨_, fun _ _ => rfl, ?_⟩; go_big_quiet_on)))); refine wpQuiet_nil ?_
        go_wp2_with fail
        obtain ⟨w6, HW6⟩ : ∃ w6, Hid (w6 = (w5.alloc (.cells #[.int .i64 P.g] 2))) := ⟨_, Lib.hid rfl⟩
        rw [show (w5.alloc (.cells #[.int .i64 P.g] 2)) = w6 from HW6.out.symm]
        have HB6 := Lib.hid (show Below W.heap.size W w6 by rw [HW6.out]; exact (HB5.out.alloc HB5.out.size _))
        refine ⟨(SD14 b P.g A n c), HSS.out _ HB6.out, fun _ h => h, ?_⟩
        (try simp only [Act.put, List.setIfInBounds_toArray, List.set_cons_zero, List.set_cons_succ]); refine tree_one ?_; simp only [pickOps, List.getElem?_toArray, List.getElem?_cons_zero, List.getElem?_cons_succ]; (repeat (first | go_big_quiet_skip | (go_big_quiet_want; first | (go_big_quiet_op; first | go_big_quiet_on | ((first | with_reducible refine ⟨_, fun _ _ => rfl, ?_⟩); go_big_quiet_on)) | (simp (contextual := true) [go_sem, F2]; with_reducible refine ⟨_, fun _ _ => rfl, ?_⟩; go_big_quiet_on)))); refine wpQuiet_nil ?_
        have HO6 := Lib.hid (show Own w6 W.heap.size 2 1 A5 n c5 (ints P.bs) by rw [HW6.out]; exact HO5.out.alloc _)
        have HC6 := Lib.hid (show ∀ j u, (ints [P.g])[j]? = some u → w6.cell? ((⟨w5.heap.size, 0, none⟩ : Addr).add j) = some u by rw [HW6.out]; exact cell_new1 w5 P.g)
        go_wp2_with (at_builtin; go_must (refine wpList_append_1 _ rfl _ _ 31 rfl W.heap.size 2 i0 _ 1 8 Try.underlying31 HI.out HZ0.out HZ1.out HZ2.out rfl (by decide) A5 n c5 (ints P.bs) rfl HO6.out ⟨w5.heap.size, 0, none⟩ 1 (ints [P.g]) rfl rfl HC6.out (by simp [ints, Value.oneCell']) (by unfold maxLen; omega) (by omega) (by have := HB6.out.size; omega) ?_); intro A6 c6 w7 hown7 hgrow7 hat7)
        have HB7 := Lib.hid (HB6.out.grown hgrow7 HB6.out.size (fun j hj => (HO6.out.lt j hj).1))
        refine ⟨(SD14 b P.g A n c), HSS.out _ HB7.out, fun _ h => h, ?_⟩
        have HO7 := Lib.hid (show Own w7 W.heap.size 2 1 A6 (n + 1) c6 (ints (P.bs ++ [P.g])) by simpa [ints] using hown7)
        have HX7 := Lib.hid (HBX.out.below HB7.out HBX.out.lt)
        have HZ7 := Lib.hid (HBZ.out.below HB7.out HBZ.out.lt)
        have k8 : w7.cell? ⟨b, 8, none⟩ = some (.slice C m e) := (HX7.out.cell 8).trans rfl
        have f8 := HX7.out.frozen 8
        clear hown7 hgrow7 hat7
        (try simp only [Act.put, List.setIfInBounds_toArray, List.set_cons_zero, List.set_cons_succ]); refine tree_one ?_; simp only [pickOps, List.getElem?_toArray, List.getElem?_cons_zero, List.getElem?_cons_succ]; (repeat (first | go_big_quiet_skip | (go_big_quiet_want; first | (go_big_quiet_op; first | go_big_quiet_on | ((first | with_reducible refine ⟨_, fun _ _ => rfl, ?_⟩); go_big_quiet_on)) | (simp (contextual := true) [go_sem, F2]; with_reducible refine ⟨_, fun _ _ => rfl, ?_⟩; go_big_quiet_on)))); refine wpQuiet_nil ?_
        go_wp2_with fail
        obtain ⟨w8, HW8⟩ : ∃ w8, Hid (w8 = w7.setCell ⟨b, 8, none⟩ (.slice A6 (n + 1) c6)) := ⟨_, Lib.hid rfl⟩
        rw [← HW8.out]
        obtain ⟨hx8, hz8, hb8, ho8, hs8⟩ := sd_facts HX7.out HZ7.out (HBEL.out.trans (HB7.out.mono (by have := HSZ.out; omega))) HO7.out (by have := HSZ.out; omega) HW8.out
        have HX8 := Lib.hid (show Blk w8 b 44 #[.int .i64 0, .int .u8 122, .int .i64 P.g, .int .i64 P.old, .int .i64 P.head, .int .i64 P.tail, .int .i64 P.many, .slice A n c, .slice A6 (n + 1) c6, .int .i64 P.steps] from hx8)
        have HZ8 := Lib.hid hz8
        have HB8 := Lib.hid hb8
        have HO8 := Lib.hid ho8
        refine ⟨(SD14 b P.g A n c), ⟨(hs8 2 (by omega)).trans ((HX7.out.cell 2).trans rfl), (hs8 7 (by omega)).trans ((HX7.out.cell 7).trans rfl)⟩, fun _ h => h, ?_⟩
        clear k8 f8 hx8 hz8 hb8 ho8 hs8
        refine tree_fin (show wpQuiet _ _ _ _ [] _ from wpQuiet_nil ?_)
        go_wp2_with (first | (refine wpList_load_row rfl 44 _ rfl b rfl 44 #[.int .i64 0, .int .u8 122, .int .i64 P.g, .int .i64 P.old, .int .i64 P.head, .int .i64 P.tail, .int .i64 P.many, .slice A n c, .slice A6 (n + 1) c6, .int .i64 P.steps] (0, 0) _ HX8.out Try.underlying44 rfl Try.infoRt ?_) | (refine wpList_store_row ?hgd_1 44 (.tmp 6) (.tmp 120) ?ho_1 (b + 1) (rtArr ⟨0, 122, P.g, P.old, P.head, P.tail, P.many, P.bs, P.bs ++ [P.g], P.steps⟩ (.slice A n c) (.slice A6 (n + 1) c6)) ?hx_1 ?hy_1 44 z44 ?hg_1 ?hi_1 ?hold_1 ?h1_1 ?h_1; (case ho_1 => rfl); (case hgd_1 => rfl); (case hx_1 => rfl); (case hy_1 => rfl); (case hi_1 => exact Try.infoRt); (case hg_1 => exact HZ8.out); (case hold_1 => rfl); (case h1_1 => exact rtArr_one _ _ _ _ _ _ _)))
        refine bodyPost_ret (results_cell_row Try.results36 _ _ (b + 1) 44 (rtArr ⟨0, 122, P.g, P.old, P.head, P.tail, P.many, P.bs, P.bs ++ [P.g], P.steps⟩ (.slice A n c) (.slice A6 (n + 1) c6)) (0, 0) _ rfl (HZ8.out.setRow _) Try.underlying44 rfl Try.infoRt) rfl ?_
        exact ro_spill HB.out HQ.out HBN.out (below_setRow HB8.out (by omega) (by have := HX8.out.lt; omega) _) (⟨fun _ => rfl, rfl, rfl, rfl, rfl, ⟨l1, l2, l3, l4⟩, rfl, ⟨HR7.out, HR7b.out⟩, at_none rfl rfl⟩) HBU.out (own_setRow HO8.out (by have := HSZ.out; omega) _) (by have := HSZ.out; omega) rfl
      · go_wp2_with fail
        obtain ⟨w2, HW2⟩ : ∃ w2, Hid (w2 = (w1.alloc (.cells #[.int .i64 P.g] 2))) := ⟨_, Lib.hid rfl⟩
        rw [show (w1.alloc (.cells #[.int .i64 P.g] 2)) = w2 from HW2.out.symm]
        have HB2 := Lib.hid (show Below W.heap.size W w2 by rw [HW2.out]; exact (HB1.out.alloc HB1.out.size _))
        refine ⟨(SD14 b P.g A n c), HSS.out _ HB2.out, fun _ h => h, ?_⟩
        (try simp only [Act.put, List.setIfInBounds_toArray, List.set_cons_zero, List.set_cons_succ]); refine tree_one ?_; simp only [pickOps, List.getElem?_toArray, List.getElem?_cons_zero, List.getElem?_cons_succ]; (repeat (first | go_big_quiet_skip | (go_big_quiet_want; first | (go_big_quiet_op; first | go_big_quiet_on | ((first | with_reducible refine ⟨_, fun _ _ => rfl, ?_⟩); go_big_quiet_on)) | (simp (contextual := true) [go_sem, F2]; with_reducible refine ⟨_, fun _ _ => rfl, ?_⟩; go_big_quiet_on)))); refine wpQuiet_nil ?_
        have HE2 := Lib.hid (show Own w2 W.heap.size 2 1 (some ⟨W.heap.size, 0, none⟩) 0 0 [] by rw [HW2.out, HW1.out]; exact Own.alloc (World.ownsRow_made W #[] 0 (Nat.le_refl _) (Nat.zero_le _) (by simp)) _)
        have HG2 := Lib.hid (show Blk w2 w1.heap.size 2 #[.int .i64 P.g] by rw [HW2.out]; exact Blk.new _ _ _)
        have HN2 := Lib.hid (show W.heap.size < w1.heap.size by rw [HW1.out]; show _ < (W.alloc _).heap.size; rw [World.size_alloc]; omega)
        go_wp2_with (at_builtin; go_must (refine wpList_append_row _ rfl _ _ 31 rfl W.heap.size 2 i0 _ 1 8 Try.underlying31 HI.out HZ0.out HZ1.out HZ2.out rfl (by decide) _ 0 0 [] rfl HE2.out A n c W.heap.size (ints P.bs) rfl HLN.out (HROW2.out.below HB2.out) HONE.out (by unfold maxLen; omega) (by omega) (by have := HB2.out.size; omega) ?_); intro A5 c5 w5 hown hgrow hat; simp only [Nat.zero_add, List.nil_append] at hown ⊢)
        have HB5 := Lib.hid (HB2.out.grown hgrow HB2.out.size (by intro j hj; simp [ob] at hj; omega))
        have HO5 := Lib.hid hown
        have HG5 := Lib.hid (HG2.out.grown hgrow (by have := HN2.out; simp [ob]; omega))
        clear hown hgrow hat
        refine ⟨(SD14 b P.g A n c), HSS.out _ HB5.out, fun _ h => h, ?_⟩
        (try simp only [Act.put, List.setIfInBounds_toArray, List.set_cons_zero, List.set_cons_succ]); refine tree_one ?_; simp only [pickOps, List.getElem?_toArray, List.getElem?_cons_zero, List.getElem?_cons_succ]; (repeat (first | go_big_quiet_skip | (go_big_quiet_want; first | (go_big_quiet_op; first | go_big_quiet_on | ((first | with_reducible refine ⟨_, fun _ _ => rfl, ?_⟩); go_big_quiet_on)) | (simp (contextual := true) [go_sem, F2]; with_reducible refine ⟨_, fun _ _ => rfl, ?_⟩; go_big_quiet_on)))); refine wpQuiet_nil ?_
        have HC5 := Lib.hid (show ∀ j u, (ints [P.g])[j]? = some u → w5.cell? ((⟨w1.heap.size, 0, none⟩ : Addr).add j) = some u from cell_blk1 HG5.out)
        go_wp2_with (at_builtin; go_must (refine wpList_append_1 _ rfl _ _ 31 rfl W.heap.size 2 i0 _ 1 8 Try.underlying31 HI.out HZ0.out HZ1.out HZ2.out rfl (by decide) A5 n c5 (ints P.bs) rfl HO5.out ⟨w1.heap.size, 0, none⟩ 1 (ints [P.g]) rfl rfl HC5.out (by simp [ints, Value.oneCell']) (by unfold maxLen; omega) (by omega) (by have := HB5.out.size; omega) ?_); intro A6 c6 w7 hown7 hgrow7 hat7)
        have HB7 := Lib.hid (HB5.out.grown hgrow7 HB5.out.size (fun j hj => (HO5.out.lt j hj).1))
        refine ⟨(SD14 b P.g A n c), HSS.out _ HB7.out, fun _ h => h, ?_⟩
        have HO7 := Lib.hid (show Own w7 W.heap.size 2 1 A6 (n + 1) c6 (ints (P.bs ++ [P.g])) by simpa [ints] using hown7)
        have HX7 := Lib.hid (HBX.out.below HB7.out HBX.out.lt)
        have HZ7 := Lib.hid (HBZ.out.below HB7.out HBZ.out.lt)
        have k8 : w7.cell? ⟨b, 8, none⟩ = some (.slice C m e) := (HX7.out.cell 8).trans rfl
        have f8 := HX7.out.frozen 8
        clear hown7 hgrow7 hat7
        (try simp only [Act.put, List.setIfInBounds_toArray, List.set_cons_zero, List.set_cons_succ]); refine tree_one ?_; simp only [pickOps, List.getElem?_toArray, List.getElem?_cons_zero, List.getElem?_cons_succ]; (repeat (first | go_big_quiet_skip | (go_big_quiet_want; first | (go_big_quiet_op; first | go_big_quiet_on | ((first | with_reducible refine ⟨_, fun _ _ => rfl, ?_⟩); go_big_quiet_on)) | (simp (contextual := true) [go_sem, F2]; with_reducible refine ⟨_, fun _ _ => rfl, ?_⟩; go_big_quiet_on)))); refine wpQuiet_nil ?_
        go_wp2_with fail
        obtain ⟨w8, HW8⟩ : ∃ w8, Hid (w8 = w7.setCell ⟨b, 8, none⟩ (.slice A6 (n + 1) c6)) := ⟨_, Lib.hid rfl⟩
        rw [← HW8.out]
        obtain ⟨hx8, hz8, hb8, ho8, hs8⟩ := sd_facts HX7.out HZ7.out (HBEL.out.trans (HB7.out.mono (by have := HSZ.out; omega))) HO7.out (by have := HSZ.out; omega) HW8.out
        have HX8 := Lib.hid (show Blk w8 b 44 #[.int .i64 0, .int .u8 122, .int .i64 P.g, .int .i64 P.old, .int .i64 P.head, .int .i64 P.tail, .int .i64 P.many, .slice A n c, .slice A6 (n + 1) c6, .int .i64 P.steps] from hx8)
        have HZ8 := Lib.hid hz8
        have HB8 := Lib.hid hb8
        have HO8 := Lib.hid ho8
        refine ⟨(SD14 b P.g A n c), ⟨(hs8 2 (by omega)).trans ((HX7.out.cell 2).trans rfl), (hs8 7 (by omega)).trans ((HX7.out.cell 7).trans rfl)⟩, fun _ h => h, ?_⟩
        clear k8 f8 hx8 hz8 hb8 ho8 hs8
        refine tree_fin (show wpQuiet _ _ _ _ [] _ from wpQuiet_nil ?_)
        go_wp2_with (first | (refine wpList_load_row rfl 44 _ rfl b rfl 44 #[.int .i64 0, .int .u8 122, .int .i64 P.g, .int .i64 P.old, .int .i64 P.head, .int .i64 P.tail, .int .i64 P.many, .slice A n c, .slice A6 (n + 1) c6, .int .i64 P.steps] (0, 0) _ HX8.out Try.underlying44 rfl Try.infoRt ?_) | (refine wpList_store_row ?hgd_2 44 (.tmp 6) (.tmp 120) ?ho_2 (b + 1) (rtArr ⟨0, 122, P.g, P.old, P.head, P.tail, P.many, P.bs, P.bs ++ [P.g], P.steps⟩ (.slice A n c) (.slice A6 (n + 1) c6)) ?hx_2 ?hy_2 44 z44 ?hg_2 ?hi_2 ?hold_2 ?h1_2 ?h_2; (case ho_2 => rfl); (case hgd_2 => rfl); (case hx_2 => rfl); (case hy_2 => rfl); (case hi_2 => exact Try.infoRt); (case hg_2 => exact HZ8.out); (case hold_2 => rfl); (case h1_2 => exact rtArr_one _ _ _ _ _ _ _)))
        refine bodyPost_ret (results_cell_row Try.results36 _ _ (b + 1) 44 (rtArr ⟨0, 122, P.g, P.old, P.head, P.tail, P.many, P.bs, P.bs ++ [P.g], P.steps⟩ (.slice A n c) (.slice A6 (n + 1) c6)) (0, 0) _ rfl (HZ8.out.setRow _) Try.underlying44 rfl Try.infoRt) rfl ?_
        exact ro_spill HB.out HQ.out HBN.out (below_setRow HB8.out (by omega) (by have := HX8.out.lt; omega) _) (⟨fun _ => rfl, rfl, rfl, rfl, rfl, ⟨l1, l2, l3, l4⟩, rfl, ⟨HR7.out, HR7b.out⟩, at_none rfl rfl⟩) HBU.out (own_setRow HO8.out (by have := HSZ.out; omega) _) (by have := HSZ.out; omega) rfl
    · go_wp2_with fail
      obtain ⟨w1, HW1⟩ : ∃ w1, Hid (w1 = (W.alloc (.cells #[.int .i64 P.g] 2)).drew) := ⟨_, Lib.hid rfl⟩
      rw [show (W.alloc (.cells #[.int .i64 P.g] 2)).drew = w1 from HW1.out.symm]
      have HB1 := Lib.hid (show Below W.heap.size W w1 by rw [HW1.out]; exact ((Below.refl W.heap.size W).alloc (Nat.le_refl _) _).drew)
      refine ⟨(SD14 b P.g A n c), HSS.out _ HB1.out, fun _ h => h, ?_⟩
      (try simp only [Act.put, List.setIfInBounds_toArray, List.set_cons_zero, List.set_cons_succ]); refine tree_one ?_; simp only [pickOps, List.getElem?_toArray, List.getElem?_cons_zero]; (repeat (first | go_big_quiet_skip | (go_big_quiet_want; first | (go_big_quiet_op; first | go_big_quiet_on | ((first | with_reducible refine ⟨_, fun _ _ => rfl, ?_⟩); go_big_quiet_on)) | (simp (contextual := true) [go_sem, F2]; with_reducible refine ⟨_, fun _ _ => rfl, ?_⟩; go_big_quiet_on)))); refine wpQuiet_nil ?_
      go_wp2_with fail
      obtain ⟨w2, HW2⟩ : ∃ w2, Hid (w2 = (w1.alloc (.cells #[] 2))) := ⟨_, Lib.hid rfl⟩
      rw [show (w1.alloc (.cells #[] 2)) = w2 from HW2.out.symm]
      have HB2 := Lib.hid (show Below W.heap.size W w2 by rw [HW2.out]; exact (HB1.out.alloc HB1.out.size _))
      refine ⟨(SD14 b P.g A n c), HSS.out _ HB2.out, fun _ h => h, ?_⟩
      (try simp only [Act.put, List.setIfInBounds_toArray, List.set_cons_zero, List.set_cons_succ]); refine tree_one ?_; simp only [pickOps, List.getElem?_toArray, List.getElem?_cons_zero, List.getElem?_cons_succ]; (repeat (first | go_big_quiet_skip | (go_big_quiet_want; first | (go_big_quiet_op; first | go_big_quiet_on | ((first | with_reducible refine ⟨_, fun _ _ => rfl, ?_⟩); go_big_quiet_on)) | (simp (contextual := true) [go_sem, F2]; with_reducible refine ⟨_, fun _ _ => rfl, ?_⟩; go_big_quiet_on)))); refine wpQuiet_nil ?_
      have HN2 := Lib.hid (show w1.heap.size = W.heap.size + 1 by rw [HW1.out]; show (W.alloc _).heap.size = _; rw [World.size_alloc])
      have HE2 := Lib.hid (show Own w2 W.heap.size 2 1 (some ⟨w1.heap.size, 0, none⟩) 0 0 [] by rw [HW2.out]; exact own_base (World.ownsRow_made w1 #[] 0 (Nat.le_refl _) (Nat.zero_le _) (by simp)) (by have := HN2.out; omega))
      have HG2 := Lib.hid (show Blk w2 W.heap.size 2 #[.int .i64 P.g] by rw [HW2.out, HW1.out]; exact ((Blk.new W _ _).drew).alloc _)
      go_wp2_with (at_builtin; go_must (refine wpList_append_row _ rfl _ _ 31 rfl W.heap.size 2 i0 _ 1 8 Try.underlying31 HI.out HZ0.out HZ1.out HZ2.out rfl (by decide) _ 0 0 [] rfl HE2.out A n c W.heap.size (ints P.bs) rfl HLN.out (HROW2.out.below HB2.out) HONE.out (by unfold maxLen; omega) (by omega) (by have := HB2.out.size; omega) ?_); intro A5 c5 w5 hown hgrow hat; simp only [Nat.zero_add, List.nil_append] at hown ⊢)
      have HB5 := Lib.hid (HB2.out.grown hgrow HB2.out.size (by intro j hj; have := HN2.out; simp [ob] at hj; omega))
      have HO5 := Lib.hid hown
      have HG5 := Lib.hid (HG2.out.grown hgrow (by have := HN2.out; simp [ob]; omega))
      clear hown hgrow hat
      refine ⟨(SD14 b P.g A n c), HSS.out _ HB5.out, fun _ h => h, ?_⟩
      (try simp only [Act.put, List.setIfInBounds_toArray, List.set_cons_zero, List.set_cons_succ]); refine tree_one ?_; simp only [pickOps, List.getElem?_toArray, List.getElem?_cons_zero, List.getElem?_cons_succ]; (repeat (first | go_big_quiet_skip | (go_big_quiet_want; first | (go_big_quiet_op; first | go_big_quiet_on | ((first | with_reducible refine ⟨_, fun _ _ => rfl, ?_⟩); go_big_quiet_on)) | (simp (contextual := true) [go_sem, F2]; with_reducible refine ⟨_, fun _ _ => rfl, ?_⟩; go_big_quiet_on)))); refine wpQuiet_nil ?_
      have HC5 := Lib.hid (show ∀ j u, (ints [P.g])[j]? = some u → w5.cell? ((⟨W.heap.size, 0, none⟩ : Addr).add j) = some u from cell_blk1 HG5.out)
      go_wp2_with (at_builtin; go_must (refine wpList_append_1 _ rfl _ _ 31 rfl W.heap.size 2 i0 _ 1 8 Try.underlying31 HI.out HZ0.out HZ1.out HZ2.out rfl (by decide) A5 n c5 (ints P.bs) rfl HO5.out ⟨W.heap.size, 0, none⟩ 1 (ints [P.g]) rfl rfl HC5.out (by simp [ints, Value.oneCell']) (by unfold maxLen; omega) (by omega) (by have := HB5.out.size; omega) ?_); intro A6 c6 w7 hown7 hgrow7 hat7)
      have HB7 := Lib.hid (HB5.out.grown hgrow7 HB5.out.size (fun j hj => (HO5.out.lt j hj).1))
      refine ⟨(SD14 b P.g A n c), HSS.out _ HB7.out, fun _ h => h, ?_⟩
      have HO7 := Lib.hid (show Own w7 W.heap.size 2 1 A6 (n + 1) c6 (ints (P.bs ++ [P.g])) by simpa [ints] using hown7)
      have HX7 := Lib.hid (HBX.out.below HB7.out HBX.out.lt)
      have HZ7 := Lib.hid (HBZ.out.below HB7.out HBZ.out.lt)
      have k8 : w7.cell? ⟨b, 8, none⟩ = some (.slice C m e) := (HX7.out.cell 8).trans rfl
      have f8 := HX7.out.frozen 8
      clear hown7 hgrow7 hat7
      (try simp only [Act.put, List.setIfInBounds_toArray, List.set_cons_zero, List.set_cons_succ]); refine tree_one ?_; simp only [pickOps, List.getElem?_toArray, List.getElem?_cons_zero, List.getElem?_cons_succ]; (repeat (first | go_big_quiet_skip | (go_big_quiet_want; first | (go_big_quiet_op; first | go_big_quiet_on | ((first | with_reducible refine ⟨_, fun _ _ => rfl, ?_⟩); go_big_quiet_on)) | (simp (contextual := true) [go_sem, F2]; with_reducible refine ⟨_, fun _ _ => rfl, ?_⟩; go_big_quiet_on)))); refine wpQuiet_nil ?_
      go_wp2_with fail
      obtain ⟨w8, HW8⟩ : ∃ w8, Hid (w8 = w7.setCell ⟨b, 8, none⟩ (.slice A6 (n + 1) c6)) := ⟨_, Lib.hid rfl⟩
      rw [← HW8.out]
      obtain ⟨hx8, hz8, hb8, ho8, hs8⟩ := sd_facts HX7.out HZ7.out (HBEL.out.trans (HB7.out.mono (by have := HSZ.out; omega))) HO7.out (by have := HSZ.out; omega) HW8.out
      have HX8 := Lib.hid (show Blk w8 b 44 #[.int .i64 0, .int .u8 122, .int .i64 P.g, .int .i64 P.old, .int .i64 P.head, .int .i64 P.tail, .int .i64 P.many, .slice A n c, .slice A6 (n + 1) c6, .int .i64 P.steps] from hx8)
      have HZ8 := Lib.hid hz8
      have HB8 := Lib.hid hb8
      have HO8 := Lib.hid ho8
      refine ⟨(SD14 b P.g A n c), ⟨(hs8 2 (by omega)).trans ((HX7.out.cell 2).trans rfl), (hs8 7 (by omega)).trans ((HX7.out.cell 7).trans rfl)⟩, fun _ h => h, ?_⟩
      clear k8 f8 hx8 hz8 hb8 ho8 hs8
      refine tree_fin (show wpQuiet _ _ _ _ [] _ from wpQuiet_nil ?_)
      go_wp2_with (first | (refine wpList_load_row rfl 44 _ rfl b rfl 44 #[.int .i64 0, .int .u8 122, .int .i64 P.g, .int .i64 P.old, .int .i64 P.head, .int .i64 P.tail, .int .i64 P.many, .slice A n c, .slice A6 (n + 1) c6, .int .i64 P.steps] (0, 0) _ HX8.out Try.underlying44 rfl Try.infoRt ?_) | (refine wpList_store_row ?hgd_3 44 (.tmp 6) (.tmp 120) ?ho_3 (b + 1) (rtArr ⟨0, 122, P.g, P.old, P.head, P.tail, P.many, P.bs, P.bs ++ [P.g], P.steps⟩ (.slice A n c) (.slice A6 (n + 1) c6)) ?hx_3 ?hy_3 44 z44 ?hg_3 ?hi_3 ?hold_3 ?h1_3 ?h_3; (case ho_3 => rfl); (case hgd_3 => rfl); (case hx_3 => rfl); (case hy_3 => rfl); (case hi_3 => exact Try.infoRt); (case hg_3 => exact HZ8.out); (case hold_3 => rfl); (case h1_3 => exact rtArr_one _ _ _ _ _ _ _)))
      refine bodyPost_ret (results_cell_row Try.results36 _ _ (b + 1) 44 (rtArr ⟨0, 122, P.g, P.old, P.head, P.tail, P.many, P.bs, P.bs ++ [P.g], P.steps⟩ (.slice A n c) (.slice A6 (n + 1) c6)) (0, 0) _ rfl (HZ8.out.setRow _) Try.underlying44 rfl Try.infoRt) rfl ?_
      exact ro_spill HB.out HQ.out HBN.out (below_setRow HB8.out (by omega) (by have := HX8.out.lt; omega) _) (⟨fun _ => rfl, rfl, rfl, rfl, rfl, ⟨l1, l2, l3, l4⟩, rfl, ⟨HR7.out, HR7b.out⟩, at_none rfl rfl⟩) HBU.out (own_setRow HO8.out (by have := HSZ.out; omega) _) (by have := HSZ.out; omega) rfl
  · have hz' : ¬ xs.getD 0 0 = P.head := by rw [← HX0.out]; exact hz
    have HCAS : Hid (∀ W, Blk W g 2 (ints xs).toArray → Calls Try.prog 49 #[.slice (some ⟨g, 0, none⟩) N N, .int .i64 0, .int .i64 P.head, .int .i64 y] W fun e w' => e = .returned (.bool false) ∧ w' = W) := Lib.hid (fun W hW => by
      have h := rcas_any hW HN.out 0 (by have := HN.out; omega) (P.head) (y)
      rw [← getD_at xs 0 (by have := HN.out; omega), ← HX0.out] at h
      rw [if_neg hz] at h
      have hdz : decide (x0 = P.head) = false := by simpa using hz
      rw [hdz] at h
      exact h)
    have he : acc size xs P .spillDone = (xs, { P with d := some .putHead }) := by
      simp only [acc, if_neg hz']
    rw [he]
    clear he hz' hz
    obtain ⟨b, HBN⟩ : ∃ b, Hid (b = w.heap.size) := ⟨_, Lib.hid rfl⟩
    obtain ⟨W, HW⟩ : ∃ W, Hid (W = (w.alloc (.cells #[.int .i64 0, .int .u8 99, .int .i64 P.g, .int .i64 P.old, .int .i64 P.head, .int .i64 P.tail, .int .i64 P.many, .slice A n c, .slice C m e, .int .i64 P.steps] 44)).alloc (.cells #[.int .i64 0, .int .u8 0, .int .i64 0, .int .i64 0, .int .i64 0, .int .i64 0, .int .i64 0, .slice none 0 0, .slice none 0 0, .int .i64 0] 44)) := ⟨_, Lib.hid rfl⟩
    have hbx : Blk W b 44 #[.int .i64 0, .int .u8 99, .int .i64 P.g, .int .i64 P.old, .int .i64 P.head, .int .i64 P.tail, .int .i64 P.many, .slice A n c, .slice C m e, .int .i64 P.steps] := by rw [HW.out, HBN.out]; exact (Blk.new _ _ _).alloc _
    have hwl : Blk W g 2 (ints xs).toArray := by rw [HW.out]; exact (HB.out.alloc _).alloc _
    have F4 : ∀ w', SB W w' → w'.cell? ⟨b, 4, none⟩ = some (.int .i64 P.head) := fun w' h => h.cell hbx ((hbx.cell 4).trans rfl)
    have F6 : ∀ w', SB W w' → w'.cell? ⟨b, 6, none⟩ = some (.int .i64 P.many) := fun w' h => h.cell hbx ((hbx.cell 6).trans rfl)
    clear hbx
    simp only [rtArr]
    go_enter Try.func36, Try.ntmps36
    go_wp2_with fail
    rw [show (w.alloc (.cells #[.int .i64 0, .int .u8 99, .int .i64 P.g, .int .i64 P.old, .int .i64 P.head, .int .i64 P.tail, .int .i64 P.many, .slice A n c, .slice C m e, .int .i64 P.steps] 44)).alloc (.cells #[.int .i64 0, .int .u8 0, .int .i64 0, .int .i64 0, .int .i64 0, .int .i64 0, .int .i64 0, .slice none 0 0, .slice none 0 0, .int .i64 0] 44) = W from HW.out.symm, ← HBN.out]
    have HD := Lib.hid (show SB W W.drew from (Below.refl _ _).drew)
    have HWL := Lib.hid hwl
    clear hwl
    refine region_schE (SB W) [([0, 1, 2, 3, 4, 5, 6, 7], 8)] [] 9 (by kernel_rfl) (by kernel_rfl) (by kernel_rfl) (fun _ _ d _ _ h => by cases d <;> exact h) HD.out ?_
    (try simp only [Act.put, List.setIfInBounds_toArray, List.set_cons_zero, List.set_cons_succ]); refine schE_seg ?_; simp only [pickOps, List.getElem?_toArray, List.getElem?_cons_zero, List.getElem?_cons_succ]; (repeat (first | go_big_quiet_skip | (go_big_quiet_want; first | (go_big_quiet_op; first | go_big_quiet_on | ((first | with_reducible refine ⟨_, fun _ _ => rfl, ?_⟩); go_big_quiet_on)) | (simp (contextual := true) [go_sem, F4, F6]; with_reducible refine ⟨_, fun _ _ => rfl, ?_⟩; go_big_quiet_on)))); refine wpQuiet_nil ?_
    go_wp2_with fail
    refine (HRO.out _).mono ?_
    rintro e' w1 ⟨rfl, rfl⟩
    go_wp2_with fail
    refine ⟨SB W, HD.out, fun _ h => h, ?_⟩
    (try simp only [Act.put, List.setIfInBounds_toArray, List.set_cons_zero, List.set_cons_succ]); refine schE_last ?_; simp only [pickOps, List.getElem?_toArray, List.getElem?_cons_zero, List.getElem?_cons_succ]; (repeat (first | go_big_quiet_skip | (go_big_quiet_want; first | (go_big_quiet_op; first | go_big_quiet_on | ((first | with_reducible refine ⟨_, fun _ _ => rfl, ?_⟩); go_big_quiet_on)) | (simp (contextual := true) [go_sem, F4]; with_reducible refine ⟨_, fun _ _ => rfl, ?_⟩; go_big_quiet_on)))); refine wpQuiet_nil ?_
    go_wp2_with fail
    refine (HCAS.out _ HWL.out.drew).mono ?_
    rintro e' w2 ⟨rfl, rfl⟩
    have hW := HW.out
    have hbn := HBN.out
    subst hW hbn
    clear F4 F6 HW HBN HD HWL
    go_wp2_with fail
    refine bodyPost_ret (v := .agg (rtArr ⟨0, 99, P.g, P.old, P.head, P.tail, P.many, P.bs, rgot, P.steps⟩ (.slice A n c) (.slice C m e))) (by simp [results, Try.results36, go_sem, rtArr]) rfl ?_
    exact ro_drew (ro_read HB.out HQ.out (((Below.refl _ w).alloc (Nat.le_refl _) _).alloc (by simp) _) ⟨fun _ => rfl, rfl, rfl, rfl, rfl, ⟨l1, l2, l3, l4⟩, HR6.out, ⟨HR7.out, HR7b.out⟩, at_some .putHead rfl rfl rfl HR10.out HR11.out (fun h => by cases h)⟩ HBU.out HGO.out)
end
end Go.Proofs.Ythnhjhlpimgkiaa

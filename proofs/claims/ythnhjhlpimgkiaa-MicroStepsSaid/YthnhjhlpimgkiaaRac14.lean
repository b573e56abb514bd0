/-
  The reference's accesses that write no cell (printed by wip/genrac.py).
-/
import Derived.Test.YthnhjhlpimgkiaaRel14
import Derived.Test.YthnhjhlpimgkiaaTia14
namespace Go.Proofs.Ythnhjhlpimgkiaa
open Go.RowKit
theorem ro_read {w w' : World} {g : Nat} {q : Nat → Prop} {xs : List Int} {P' : Pt} {R' : Rt} {B' G' : Value} (hb : Blk w g 2 (ints xs).toArray) (hq : ¬ q g) (h2 : Below w.heap.size w w') (hrel : Rel P' R') (hB : RowQ w q B' R'.buf) (hG : RowQ w q G' R'.got) :
    RO w g q xs P' (.returned (.agg (rtArr R' B' G'))) w' := by
  have hm : Mv [g] w w' := Mv.of_below h2 (Nat.le_refl _)
  have hL : ∀ b ∈ [g], ¬ q b := by intro b hb; rw [List.mem_singleton] at hb; rw [hb]; exact hq
  exact ⟨R', B', G', rfl, hrel, hB.mv hm hL, hG.mv hm hL, hb.below h2 hb.lt, hm⟩
theorem at_some {P : Pt} {R : Rt} (a : Ac) (hd : P.d = some a) (h1 : R.kind = a.kd) (h2 : R.pl = a.pl) (h3 : R.got = []) (h4 : P.gs = []) (h5 : a.hot = true → R.many = P.many ∧ R.buf = P.bs) : AtIs P R := by
  unfold AtIs
  rw [hd]
  exact ⟨h1, h2, h3, h4, h5⟩
theorem at_none {P : Pt} {R : Rt} (hd : P.d = none) (h : R.pl = 122) : AtIs P R := by
  unfold AtIs
  rw [hd]
  exact h
theorem u_eq {x y : Int} (h : x = y) (h0 : 0 ≤ x) (h1 : x < 4294967296) : x = (u y : Int) := by
  rw [← h]
  unfold u
  omega
section
variable {w : World} {g N size : Nat} {q : Nat → Prop} {xs : List Int} {P : Pt} {R : Rt} {A C : Option Addr} {n c m e : Nat}
theorem r_putLoad (hb : Blk w g 2 (ints xs).toArray) (hN : xs.length = N) (hL : size + 3 ≤ xs.length) (hs : size = 2 ∨ size = 4 ∨ size = 8) (hx : XOk xs) (hq : ¬ q g) (hr : Rel P R) (hd : P.d = some .putLoad) (hB : RowQ w q (.slice A n c) R.buf) (hG : RowQ w q (.slice C m e) R.got) :
    Calls Try.prog 36 #[.slice (some ⟨g, 0, none⟩) N N, .int .i64 size, .agg (rtArr R (.slice A n c) (.slice C m e))] w fun e' w' => RO w g q (acc size xs P .putLoad).1 (acc size xs P .putLoad).2 e' w' := by
  obtain ⟨r1, r2, r3, r4, r5, ⟨l1, l2, l3, l4⟩, r6, ⟨r7, r7b⟩, r8⟩ := hr
  have r1 := r1 (by rw [hd]; exact Option.some_ne_none _)
  unfold AtIs at r8
  rw [hd] at r8
  obtain ⟨r8, r9, r10, r11, r12⟩ := r8
  obtain ⟨kd, pl, rg, ro, rh, rt, rm, rb, rgot, rs⟩ := R
  simp only [Ac.kd, Ac.pl] at r1 r2 r3 r4 r5 r6 r7 r8 r9 r10
  subst r1 r2 r3 r4 r5 r8 r9
  have x0l := hx.1
  have x0u := hx.2.1
  have x1l := hx.2.2.1
  have x1u := hx.2.2.2
  have HXK := Lib.hid hx
  have hg := hb.lt
  obtain ⟨x0, HX0⟩ : ∃ x, Hid (x = xs.getD 0 0) := ⟨_, Lib.hid rfl⟩
  obtain ⟨x1, HX1⟩ : ∃ x, Hid (x = xs.getD 1 0) := ⟨_, Lib.hid rfl⟩
  obtain ⟨x2, HX2⟩ : ∃ x, Hid (x = xs.getD 2 0) := ⟨_, Lib.hid rfl⟩
  have c0 : w.cell? ⟨g, 0, none⟩ = some (.int .i64 x0) := by rw [HX0.out, getD_at xs 0 (by omega)]; exact blk_at hb 0 _
  have c1 : w.cell? ⟨g, 1, none⟩ = some (.int .i64 x1) := by rw [HX1.out, getD_at xs 1 (by omega)]; exact blk_at hb 1 _
  have c2 : w.cell? ⟨g, 2, none⟩ = some (.int .i64 x2) := by rw [HX2.out, getD_at xs 2 (by omega)]; exact blk_at hb 2 _
  rw [← HX0.out] at x0l x0u
  rw [← HX1.out] at x1l x1u
  have u0 : (u x0 : Int) = x0 := by unfold u; omega
  have u1 : (u x1 : Int) = x1 := by unfold u; omega
  have hN3 : 3 < N := by omega
  have HB := Lib.hid hb
  have HN := Lib.hid hN
  have HL := Lib.hid hL
  have HS := Lib.hid hs
  have HBU := Lib.hid hB
  have HGO := Lib.hid hG
  have HQ := Lib.hid hq
  have HR6 := Lib.hid r6
  have HR7 := Lib.hid r7
  have HR7b := Lib.hid r7b
  have HR10 := Lib.hid r10
  have HR11 := Lib.hid r11
  have HR12 := Lib.hid r12
  clear hb hN hL hs hx hB hG hq r6 r7 r7b r10 r11 r12 hd
  simp only [rtArr]
  go_enter Try.func36, Try.ntmps36
  go_wp2_with fail
  refine bodyPost_ret (v := .agg (rtArr ⟨0, 98, P.g, x2, P.head, P.tail, rm, rb, rgot, P.steps⟩ (.slice A n c) (.slice C m e))) (by simp [results, Try.results36, go_sem, rtArr]) rfl ?_
  exact ro_read HB.out HQ.out (((Below.refl _ w).alloc (Nat.le_refl _) _).alloc (by simp) _) ⟨fun _ => rfl, HX2.out, rfl, rfl, rfl, ⟨l1, l2, l3, l4⟩, HR6.out, ⟨HR7.out, HR7b.out⟩, at_some .putNext rfl rfl rfl HR10.out HR11.out (fun h => by cases h)⟩ HBU.out HGO.out
theorem r_putHead (hb : Blk w g 2 (ints xs).toArray) (hN : xs.length = N) (hL : size + 3 ≤ xs.length) (hs : size = 2 ∨ size = 4 ∨ size = 8) (hx : XOk xs) (hq : ¬ q g) (hr : Rel P R) (hd : P.d = some .putHead) (hB : RowQ w q (.slice A n c) R.buf) (hG : RowQ w q (.slice C m e) R.got) :
    Calls Try.prog 36 #[.slice (some ⟨g, 0, none⟩) N N, .int .i64 size, .agg (rtArr R (.slice A n c) (.slice C m e))] w fun e' w' => RO w g q (acc size xs P .putHead).1 (acc size xs P .putHead).2 e' w' := by
  obtain ⟨r1, r2, r3, r4, r5, ⟨l1, l2, l3, l4⟩, r6, ⟨r7, r7b⟩, r8⟩ := hr
  have r1 := r1 (by rw [hd]; exact Option.some_ne_none _)
  unfold AtIs at r8
  rw [hd] at r8
  obtain ⟨r8, r9, r10, r11, r12⟩ := r8
  obtain ⟨kd, pl, rg, ro, rh, rt, rm, rb, rgot, rs⟩ := R
  simp only [Ac.kd, Ac.pl] at r1 r2 r3 r4 r5 r6 r7 r8 r9 r10
  subst r1 r2 r3 r4 r5 r8 r9
  have x0l := hx.1
  have x0u := hx.2.1
  have x1l := hx.2.2.1
  have x1u := hx.2.2.2
  have HXK := Lib.hid hx
  have hg := hb.lt
  obtain ⟨x0, HX0⟩ : ∃ x, Hid (x = xs.getD 0 0) := ⟨_, Lib.hid rfl⟩
  obtain ⟨x1, HX1⟩ : ∃ x, Hid (x = xs.getD 1 0) := ⟨_, Lib.hid rfl⟩
  obtain ⟨x2, HX2⟩ : ∃ x, Hid (x = xs.getD 2 0) := ⟨_, Lib.hid rfl⟩
  have c0 : w.cell? ⟨g, 0, none⟩ = some (.int .i64 x0) := by rw [HX0.out, getD_at xs 0 (by omega)]; exact blk_at hb 0 _
  have c1 : w.cell? ⟨g, 1, none⟩ = some (.int .i64 x1) := by rw [HX1.out, getD_at xs 1 (by omega)]; exact blk_at hb 1 _
  have c2 : w.cell? ⟨g, 2, none⟩ = some (.int .i64 x2) := by rw [HX2.out, getD_at xs 2 (by omega)]; exact blk_at hb 2 _
  rw [← HX0.out] at x0l x0u
  rw [← HX1.out] at x1l x1u
  have u0 : (u x0 : Int) = x0 := by unfold u; omega
  have u1 : (u x1 : Int) = x1 := by unfold u; omega
  have hN3 : 3 < N := by omega
  have HB := Lib.hid hb
  have HN := Lib.hid hN
  have HL := Lib.hid hL
  have HS := Lib.hid hs
  have HBU := Lib.hid hB
  have HGO := Lib.hid hG
  have HQ := Lib.hid hq
  have HR6 := Lib.hid r6
  have HR7 := Lib.hid r7
  have HR7b := Lib.hid r7b
  have HR10 := Lib.hid r10
  have HR11 := Lib.hid r11
  have HR12 := Lib.hid r12
  clear hb hN hL hs hx hB hG hq r6 r7 r7b r10 r11 r12 hd
  simp only [rtArr]
  go_enter Try.func36, Try.ntmps36
  go_wp2_with fail
  refine bodyPost_ret (v := .agg (rtArr ⟨0, 100, P.g, P.old, x0, P.tail, rm, rb, rgot, P.steps⟩ (.slice A n c) (.slice C m e))) (by simp [results, Try.results36, go_sem, rtArr]) rfl ?_
  exact ro_read HB.out HQ.out (((Below.refl _ w).alloc (Nat.le_refl _) _).alloc (by simp) _) ⟨fun _ => rfl, rfl, (u_eq HX0.out x0l x0u), rfl, rfl, ⟨u_lt _, l2, l3, l4⟩, HR6.out, ⟨HR7.out, HR7b.out⟩, at_some .putTail rfl rfl rfl HR10.out HR11.out (fun h => by cases h)⟩ HBU.out HGO.out
theorem r_getHead (hb : Blk w g 2 (ints xs).toArray) (hN : xs.length = N) (hL : size + 3 ≤ xs.length) (hs : size = 2 ∨ size = 4 ∨ size = 8) (hx : XOk xs) (hq : ¬ q g) (hr : Rel P R) (hd : P.d = some .getHead) (hB : RowQ w q (.slice A n c) R.buf) (hG : RowQ w q (.slice C m e) R.got) :
    Calls Try.prog 37 #[.slice (some ⟨g, 0, none⟩) N N, .int .i64 size, .agg (rtArr R (.slice A n c) (.slice C m e))] w fun e' w' => RO w g q (acc size xs P .getHead).1 (acc size xs P .getHead).2 e' w' := by
  obtain ⟨r1, r2, r3, r4, r5, ⟨l1, l2, l3, l4⟩, r6, ⟨r7, r7b⟩, r8⟩ := hr
  have r1 := r1 (by rw [hd]; exact Option.some_ne_none _)
  unfold AtIs at r8
  rw [hd] at r8
  obtain ⟨r8, r9, r10, r11, r12⟩ := r8
  obtain ⟨kd, pl, rg, ro, rh, rt, rm, rb, rgot, rs⟩ := R
  simp only [Ac.kd, Ac.pl] at r1 r2 r3 r4 r5 r6 r7 r8 r9 r10
  subst r1 r2 r3 r4 r5 r8 r9
  have x0l := hx.1
  have x0u := hx.2.1
  have x1l := hx.2.2.1
  have x1u := hx.2.2.2
  have HXK := Lib.hid hx
  have hg := hb.lt
  obtain ⟨x0, HX0⟩ : ∃ x, Hid (x = xs.getD 0 0) := ⟨_, Lib.hid rfl⟩
  obtain ⟨x1, HX1⟩ : ∃ x, Hid (x = xs.getD 1 0) := ⟨_, Lib.hid rfl⟩
  obtain ⟨x2, HX2⟩ : ∃ x, Hid (x = xs.getD 2 0) := ⟨_, Lib.hid rfl⟩
  have c0 : w.cell? ⟨g, 0, none⟩ = some (.int .i64 x0) := by rw [HX0.out, getD_at xs 0 (by omega)]; exact blk_at hb 0 _
  have c1 : w.cell? ⟨g, 1, none⟩ = some (.int .i64 x1) := by rw [HX1.out, getD_at xs 1 (by omega)]; exact blk_at hb 1 _
  have c2 : w.cell? ⟨g, 2, none⟩ = some (.int .i64 x2) := by rw [HX2.out, getD_at xs 2 (by omega)]; exact blk_at hb 2 _
  rw [← HX0.out] at x0l x0u
  rw [← HX1.out] at x1l x1u
  have u0 : (u x0 : Int) = x0 := by unfold u; omega
  have u1 : (u x1 : Int) = x1 := by unfold u; omega
  have hN3 : 3 < N := by omega
  have HB := Lib.hid hb
  have HN := Lib.hid hN
  have HL := Lib.hid hL
  have HS := Lib.hid hs
  have HBU := Lib.hid hB
  have HGO := Lib.hid hG
  have HQ := Lib.hid hq
  have HR6 := Lib.hid r6
  have HR7 := Lib.hid r7
  have HR7b := Lib.hid r7b
  have HR10 := Lib.hid r10
  have HR11 := Lib.hid r11
  have HR12 := Lib.hid r12
  clear hb hN hL hs hx hB hG hq r6 r7 r7b r10 r11 r12 hd
  simp only [rtArr]
  go_enter Try.func37, Try.ntmps37
  go_wp2_with fail
  refine bodyPost_ret (v := .agg (rtArr ⟨1, 100, P.g, P.old, x0, P.tail, rm, rb, rgot, P.steps⟩ (.slice A n c) (.slice C m e))) (by simp [results, Try.results37, go_sem, rtArr]) rfl ?_
  exact ro_read HB.out HQ.out (((Below.refl _ w).alloc (Nat.le_refl _) _).alloc (by simp) _) ⟨fun _ => rfl, rfl, (u_eq HX0.out x0l x0u), rfl, rfl, ⟨u_lt _, l2, l3, l4⟩, HR6.out, ⟨HR7.out, HR7b.out⟩, at_some .getTail rfl rfl rfl HR10.out HR11.out (fun h => by cases h)⟩ HBU.out HGO.out
theorem r_grabHead (hb : Blk w g 2 (ints xs).toArray) (hN : xs.length = N) (hL : size + 3 ≤ xs.length) (hs : size = 2 ∨ size = 4 ∨ size = 8) (hx : XOk xs) (hq : ¬ q g) (hr : Rel P R) (hd : P.d = some .grabHead) (hB : RowQ w q (.slice A n c) R.buf) (hG : RowQ w q (.slice C m e) R.got) :
    Calls Try.prog 38 #[.slice (some ⟨g, 0, none⟩) N N, .int .i64 size, .agg (rtArr R (.slice A n c) (.slice C m e))] w fun e' w' => RO w g q (acc size xs P .grabHead).1 (acc size xs P .grabHead).2 e' w' := by
  obtain ⟨r1, r2, r3, r4, r5, ⟨l1, l2, l3, l4⟩, r6, ⟨r7, r7b⟩, r8⟩ := hr
  have r1 := r1 (by rw [hd]; exact Option.some_ne_none _)
  unfold AtIs at r8
  rw [hd] at r8
  obtain ⟨r8, r9, r10, r11, r12⟩ := r8
  obtain ⟨kd, pl, rg, ro, rh, rt, rm, rb, rgot, rs⟩ := R
  simp only [Ac.kd, Ac.pl] at r1 r2 r3 r4 r5 r6 r7 r8 r9 r10
  subst r1 r2 r3 r4 r5 r8 r9
  have x0l := hx.1
  have x0u := hx.2.1
  have x1l := hx.2.2.1
  have x1u := hx.2.2.2
  have HXK := Lib.hid hx
  have hg := hb.lt
  obtain ⟨x0, HX0⟩ : ∃ x, Hid (x = xs.getD 0 0) := ⟨_, Lib.hid rfl⟩
  obtain ⟨x1, HX1⟩ : ∃ x, Hid (x = xs.getD 1 0) := ⟨_, Lib.hid rfl⟩
  obtain ⟨x2, HX2⟩ : ∃ x, Hid (x = xs.getD 2 0) := ⟨_, Lib.hid rfl⟩
  have c0 : w.cell? ⟨g, 0, none⟩ = some (.int .i64 x0) := by rw [HX0.out, getD_at xs 0 (by omega)]; exact blk_at hb 0 _
  have c1 : w.cell? ⟨g, 1, none⟩ = some (.int .i64 x1) := by rw [HX1.out, getD_at xs 1 (by omega)]; exact blk_at hb 1 _
  have c2 : w.cell? ⟨g, 2, none⟩ = some (.int .i64 x2) := by rw [HX2.out, getD_at xs 2 (by omega)]; exact blk_at hb 2 _
  rw [← HX0.out] at x0l x0u
  rw [← HX1.out] at x1l x1u
  have u0 : (u x0 : Int) = x0 := by unfold u; omega
  have u1 : (u x1 : Int) = x1 := by unfold u; omega
  have hN3 : 3 < N := by omega
  have HB := Lib.hid hb
  have HN := Lib.hid hN
  have HL := Lib.hid hL
  have HS := Lib.hid hs
  have HBU := Lib.hid hB
  have HGO := Lib.hid hG
  have HQ := Lib.hid hq
  have HR6 := Lib.hid r6
  have HR7 := Lib.hid r7
  have HR7b := Lib.hid r7b
  have HR10 := Lib.hid r10
  have HR11 := Lib.hid r11
  have HR12 := Lib.hid r12
  clear hb hN hL hs hx hB hG hq r6 r7 r7b r10 r11 r12 hd
  simp only [rtArr]
  go_enter Try.func38, Try.ntmps38
  go_wp2_with fail
  refine bodyPost_ret (v := .agg (rtArr ⟨2, 98, P.g, P.old, x0, P.tail, rm, rb, rgot, P.steps⟩ (.slice A n c) (.slice C m e))) (by simp [results, Try.results38, go_sem, rtArr]) rfl ?_
  exact ro_read HB.out HQ.out (((Below.refl _ w).alloc (Nat.le_refl _) _).alloc (by simp) _) ⟨fun _ => rfl, rfl, (u_eq HX0.out x0l x0u), rfl, rfl, ⟨u_lt _, l2, l3, l4⟩, HR6.out, ⟨HR7.out, HR7b.out⟩, at_some .grabTail rfl rfl rfl HR10.out HR11.out (fun h => by cases h)⟩ HBU.out HGO.out
theorem r_getLoad (hb : Blk w g 2 (ints xs).toArray) (hN : xs.length = N) (hL : size + 3 ≤ xs.length) (hs : size = 2 ∨ size = 4 ∨ size = 8) (hx : XOk xs) (hq : ¬ q g) (hr : Rel P R) (hd : P.d = some .getLoad) (hB : RowQ w q (.slice A n c) R.buf) (hG : RowQ w q (.slice C m e) R.got) :
    Calls Try.prog 37 #[.slice (some ⟨g, 0, none⟩) N N, .int .i64 size, .agg (rtArr R (.slice A n c) (.slice C m e))] w fun e' w' => RO w g q (acc size xs P .getLoad).1 (acc size xs P .getLoad).2 e' w' := by
  obtain ⟨r1, r2, r3, r4, r5, ⟨l1, l2, l3, l4⟩, r6, ⟨r7, r7b⟩, r8⟩ := hr
  have r1 := r1 (by rw [hd]; exact Option.some_ne_none _)
  unfold AtIs at r8
  rw [hd] at r8
  obtain ⟨r8, r9, r10, r11, r12⟩ := r8
  obtain ⟨kd, pl, rg, ro, rh, rt, rm, rb, rgot, rs⟩ := R
  simp only [Ac.kd, Ac.pl] at r1 r2 r3 r4 r5 r6 r7 r8 r9 r10
  subst r1 r2 r3 r4 r5 r8 r9
  have x0l := hx.1
  have x0u := hx.2.1
  have x1l := hx.2.2.1
  have x1u := hx.2.2.2
  have HXK := Lib.hid hx
  have hg := hb.lt
  obtain ⟨x0, HX0⟩ : ∃ x, Hid (x = xs.getD 0 0) := ⟨_, Lib.hid rfl⟩
  obtain ⟨x1, HX1⟩ : ∃ x, Hid (x = xs.getD 1 0) := ⟨_, Lib.hid rfl⟩
  obtain ⟨x2, HX2⟩ : ∃ x, Hid (x = xs.getD 2 0) := ⟨_, Lib.hid rfl⟩
  have c0 : w.cell? ⟨g, 0, none⟩ = some (.int .i64 x0) := by rw [HX0.out, getD_at xs 0 (by omega)]; exact blk_at hb 0 _
  have c1 : w.cell? ⟨g, 1, none⟩ = some (.int .i64 x1) := by rw [HX1.out, getD_at xs 1 (by omega)]; exact blk_at hb 1 _
  have c2 : w.cell? ⟨g, 2, none⟩ = some (.int .i64 x2) := by rw [HX2.out, getD_at xs 2 (by omega)]; exact blk_at hb 2 _
  rw [← HX0.out] at x0l x0u
  rw [← HX1.out] at x1l x1u
  have u0 : (u x0 : Int) = x0 := by unfold u; omega
  have u1 : (u x1 : Int) = x1 := by unfold u; omega
  have hN3 : 3 < N := by omega
  have HB := Lib.hid hb
  have HN := Lib.hid hN
  have HL := Lib.hid hL
  have HS := Lib.hid hs
  have HBU := Lib.hid hB
  have HGO := Lib.hid hG
  have HQ := Lib.hid hq
  have HR6 := Lib.hid r6
  have HR7 := Lib.hid r7
  have HR7b := Lib.hid r7b
  have HR10 := Lib.hid r10
  have HR11 := Lib.hid r11
  have HR12 := Lib.hid r12
  clear hb hN hL hs hx hB hG hq r6 r7 r7b r10 r11 r12 hd
  by_cases hz : x2 = 0
  · have hzb : (x2 == 0) = true := by simpa using hz
    have he : acc size xs P .getLoad = (xs, { P with old := xs.getD 2 0, d := some .getHead }) := by
      have hz : xs.getD 2 0 = 0 := by rw [← HX2.out]; exact hz
      simp only [acc, if_pos hz]
    rw [he]
    simp only [rtArr]
    go_enter Try.func37, Try.ntmps37
    clear hz he
    go_wp2_with fail
    refine bodyPost_ret (v := .agg (rtArr ⟨1, 99, P.g, x2, P.head, P.tail, rm, rb, rgot, P.steps⟩ (.slice A n c) (.slice C m e))) (by simp [results, Try.results37, go_sem, rtArr]) rfl ?_
    exact ro_read HB.out HQ.out (((Below.refl _ w).alloc (Nat.le_refl _) _).alloc (by simp) _) ⟨fun _ => rfl, HX2.out, rfl, rfl, rfl, ⟨l1, l2, l3, l4⟩, HR6.out, ⟨HR7.out, HR7b.out⟩, at_some .getHead rfl rfl rfl HR10.out HR11.out (fun h => by cases h)⟩ HBU.out HGO.out
  · have hzb : (x2 == 0) = false := by simpa using hz
    have he : acc size xs P .getLoad = (xs, { P with old := xs.getD 2 0, d := some .getNext }) := by
      have hz : ¬ xs.getD 2 0 = 0 := by rw [← HX2.out]; exact hz
      simp only [acc, if_neg hz]
    rw [he]
    simp only [rtArr]
    go_enter Try.func37, Try.ntmps37
    clear hz he
    go_wp2_with fail
    refine bodyPost_ret (v := .agg (rtArr ⟨1, 98, P.g, x2, P.head, P.tail, rm, rb, rgot, P.steps⟩ (.slice A n c) (.slice C m e))) (by simp [results, Try.results37, go_sem, rtArr]) rfl ?_
    exact ro_read HB.out HQ.out (((Below.refl _ w).alloc (Nat.le_refl _) _).alloc (by simp) _) ⟨fun _ => rfl, HX2.out, rfl, rfl, rfl, ⟨l1, l2, l3, l4⟩, HR6.out, ⟨HR7.out, HR7b.out⟩, at_some .getNext rfl rfl rfl HR10.out HR11.out (fun h => by cases h)⟩ HBU.out HGO.out
theorem r_grabLoad (hb : Blk w g 2 (ints xs).toArray) (hN : xs.length = N) (hL : size + 3 ≤ xs.length) (hs : size = 2 ∨ size = 4 ∨ size = 8) (hx : XOk xs) (hq : ¬ q g) (hr : Rel P R) (hd : P.d = some .grabLoad) (hB : RowQ w q (.slice A n c) R.buf) (hG : RowQ w q (.slice C m e) R.got) :
    Calls Try.prog 38 #[.slice (some ⟨g, 0, none⟩) N N, .int .i64 size, .agg (rtArr R (.slice A n c) (.slice C m e))] w fun e' w' => RO w g q (acc size xs P .grabLoad).1 (acc size xs P .grabLoad).2 e' w' := by
  obtain ⟨r1, r2, r3, r4, r5, ⟨l1, l2, l3, l4⟩, r6, ⟨r7, r7b⟩, r8⟩ := hr
  have r1 := r1 (by rw [hd]; exact Option.some_ne_none _)
  unfold AtIs at r8
  rw [hd] at r8
  obtain ⟨r8, r9, r10, r11, r12⟩ := r8
  obtain ⟨kd, pl, rg, ro, rh, rt, rm, rb, rgot, rs⟩ := R
  simp only [Ac.kd, Ac.pl] at r1 r2 r3 r4 r5 r6 r7 r8 r9 r10
  subst r1 r2 r3 r4 r5 r8 r9
  have x0l := hx.1
  have x0u := hx.2.1
  have x1l := hx.2.2.1
  have x1u := hx.2.2.2
  have HXK := Lib.hid hx
  have hg := hb.lt
  obtain ⟨x0, HX0⟩ : ∃ x, Hid (x = xs.getD 0 0) := ⟨_, Lib.hid rfl⟩
  obtain ⟨x1, HX1⟩ : ∃ x, Hid (x = xs.getD 1 0) := ⟨_, Lib.hid rfl⟩
  obtain ⟨x2, HX2⟩ : ∃ x, Hid (x = xs.getD 2 0) := ⟨_, Lib.hid rfl⟩
  have c0 : w.cell? ⟨g, 0, none⟩ = some (.int .i64 x0) := by rw [HX0.out, getD_at xs 0 (by omega)]; exact blk_at hb 0 _
  have c1 : w.cell? ⟨g, 1, none⟩ = some (.int .i64 x1) := by rw [HX1.out, getD_at xs 1 (by omega)]; exact blk_at hb 1 _
  have c2 : w.cell? ⟨g, 2, none⟩ = some (.int .i64 x2) := by rw [HX2.out, getD_at xs 2 (by omega)]; exact blk_at hb 2 _
  rw [← HX0.out] at x0l x0u
  rw [← HX1.out] at x1l x1u
  have u0 : (u x0 : Int) = x0 := by unfold u; omega
  have u1 : (u x1 : Int) = x1 := by unfold u; omega
  have hN3 : 3 < N := by omega
  have HB := Lib.hid hb
  have HN := Lib.hid hN
  have HL := Lib.hid hL
  have HS := Lib.hid hs
  have HBU := Lib.hid hB
  have HGO := Lib.hid hG
  have HQ := Lib.hid hq
  have HR6 := Lib.hid r6
  have HR7 := Lib.hid r7
  have HR7b := Lib.hid r7b
  have HR10 := Lib.hid r10
  have HR11 := Lib.hid r11
  have HR12 := Lib.hid r12
  clear hb hN hL hs hx hB hG hq r6 r7 r7b r10 r11 r12 hd
  by_cases hz : x2 = 0
  · have hzb : (x2 == 0) = true := by simpa using hz
    have he : acc size xs P .grabLoad = (xs, { P with old := xs.getD 2 0, d := none, gs := [] }) := by
      have hz : xs.getD 2 0 = 0 := by rw [← HX2.out]; exact hz
      simp only [acc, if_pos hz]
    rw [he]
    simp only [rtArr]
    go_enter Try.func38, Try.ntmps38
    clear hz he
    go_wp2_with fail
    refine bodyPost_ret (v := .agg (rtArr ⟨2, 122, P.g, x2, P.head, P.tail, rm, rb, rgot, P.steps⟩ (.slice A n c) (.slice C m e))) (by simp [results, Try.results38, go_sem, rtArr]) rfl ?_
    exact ro_read HB.out HQ.out (((Below.refl _ w).alloc (Nat.le_refl _) _).alloc (by simp) _) ⟨fun _ => rfl, HX2.out, rfl, rfl, rfl, ⟨l1, l2, l3, l4⟩, HR10.out, ⟨HR7.out, HR7b.out⟩, at_none rfl rfl⟩ HBU.out HGO.out
  · have hzb : (x2 == 0) = false := by simpa using hz
    have he : acc size xs P .grabLoad = (xs, { P with old := xs.getD 2 0, d := some .grabNext }) := by
      have hz : ¬ xs.getD 2 0 = 0 := by rw [← HX2.out]; exact hz
      simp only [acc, if_neg hz]
    rw [he]
    simp only [rtArr]
    go_enter Try.func38, Try.ntmps38
    clear hz he
    go_wp2_with fail
    refine bodyPost_ret (v := .agg (rtArr ⟨2, 100, P.g, x2, P.head, P.tail, rm, rb, rgot, P.steps⟩ (.slice A n c) (.slice C m e))) (by simp [results, Try.results38, go_sem, rtArr]) rfl ?_
    exact ro_read HB.out HQ.out (((Below.refl _ w).alloc (Nat.le_refl _) _).alloc (by simp) _) ⟨fun _ => rfl, HX2.out, rfl, rfl, rfl, ⟨l1, l2, l3, l4⟩, HR6.out, ⟨HR7.out, HR7b.out⟩, at_some .grabNext rfl rfl rfl HR10.out HR11.out (fun h => by cases h)⟩ HBU.out HGO.out
end
end Go.Proofs.Ythnhjhlpimgkiaa

/-
  The reference's accesses that compute (printed by wip/genrad.py).
-/
import Derived.Test.YthnhjhlpimgkiaaRac14
namespace Go.Proofs.Ythnhjhlpimgkiaa
open Go.RowKit
section
variable {w : World} {g N size : Nat} {q : Nat → Prop} {xs : List Int} {P : Pt} {R : Rt} {A C : Option Addr} {n c m e : Nat}
theorem r_getTail (hb : Blk w g 2 (ints xs).toArray) (hN : xs.length = N) (hL : size + 3 ≤ xs.length) (hs : size = 2 ∨ size = 4 ∨ size = 8) (hx : XOk xs) (hq : ¬ q g) (hr : Rel P R) (hd : P.d = some .getTail) (hB : RowQ w q (.slice A n c) R.buf) (hG : RowQ w q (.slice C m e) R.got) :
    Calls Try.prog 37 #[.slice (some ⟨g, 0, none⟩) N N, .int .i64 size, .agg (rtArr R (.slice A n c) (.slice C m e))] w fun e' w' => RO w g q (acc size xs P .getTail).1 (acc size xs P .getTail).2 e' w' := by
  obtain ⟨r1, r2, r3, r4, r5, ⟨l1, l2, l3, l4⟩, r6, ⟨r7, r7b⟩, r8⟩ := hr
  have r1 := r1 (by rw [hd]; exact Option.some_ne_none _)
  unfold AtIs at r8
  rw [hd] at r8
  obtain ⟨r8, r9, r10, r11, r12⟩ := r8
  obtain ⟨kd, pl, rg, ro, rh, rt, rm, rb, rgot, rs⟩ := R
  simp only [Ac.kd, Ac.pl] at r1 r2 r3 r4 r5 r6 r7 r8 r9 r10
  subst r1 r2 r3 r4 r5 r8 r9
  have x0l := hx.1
  have x0u := hx.2.1
  have x1l := hx.2.2.1
  have x1u := hx.2.2.2
  have HXK := Lib.hid hx
  have hg := hb.lt
  obtain ⟨x0, HX0⟩ : ∃ x, Hid (x = xs.getD 0 0) := ⟨_, Lib.hid rfl⟩
  obtain ⟨x1, HX1⟩ : ∃ x, Hid (x = xs.getD 1 0) := ⟨_, Lib.hid rfl⟩
  obtain ⟨x2, HX2⟩ : ∃ x, Hid (x = xs.getD 2 0) := ⟨_, Lib.hid rfl⟩
  have c0 : w.cell? ⟨g, 0, none⟩ = some (.int .i64 x0) := by rw [HX0.out, getD_at xs 0 (by omega)]; exact blk_at hb 0 _
  have c1 : w.cell? ⟨g, 1, none⟩ = some (.int .i64 x1) := by rw [HX1.out, getD_at xs 1 (by omega)]; exact blk_at hb 1 _
  have c2 : w.cell? ⟨g, 2, none⟩ = some (.int .i64 x2) := by rw [HX2.out, getD_at xs 2 (by omega)]; exact blk_at hb 2 _
  rw [← HX0.out] at x0l x0u
  rw [← HX1.out] at x1l x1u
  have u0 : (u x0 : Int) = x0 := by unfold u; omega
  have u1 : (u x1 : Int) = x1 := by unfold u; omega
  have hN3 : 3 < N := by omega
  have HB := Lib.hid hb
  have HN := Lib.hid hN
  have HL := Lib.hid hL
  have HS := Lib.hid hs
  have HBU := Lib.hid hB
  have HGO := Lib.hid hG
  have HQ := Lib.hid hq
  have HR6 := Lib.hid r6
  have HR7 := Lib.hid r7
  have HR7b := Lib.hid r7b
  have HR10 := Lib.hid r10
  have HR11 := Lib.hid r11
  have HR12 := Lib.hid r12
  clear hb hN hL hs hx hB hG hq r6 r7 r7b r10 r11 r12 hd
  have hk : u (xs.getD 1 0) = u x1 := by rw [HX1.out]
  by_cases hz : x1 = P.head
  · have hzb : (x1 == (P.head : Int)) = true := by simpa using hz
    have he : acc size xs P .getTail = (xs, { P with tail := u (xs.getD 1 0), d := none, gs := [] }) := by
      have hz : u (xs.getD 1 0) = P.head := by rw [hk]; omega
      simp only [acc, if_pos hz]
    rw [he]
    simp only [rtArr]
    go_enter Try.func37, Try.ntmps37
    clear hz he hk
    go_wp2_with fail
    refine bodyPost_ret (v := .agg (rtArr ⟨1, 122, P.g, P.old, P.head, x1, rm, rb, rgot, P.steps⟩ (.slice A n c) (.slice C m e))) (by simp [results, Try.results37, go_sem, rtArr]) rfl ?_
    exact ro_read HB.out HQ.out (((Below.refl _ w).alloc (Nat.le_refl _) _).alloc (by simp) _) ⟨fun _ => rfl, rfl, rfl, (u_eq HX1.out x1l x1u), rfl, ⟨l1, u_lt _, l3, l4⟩, HR10.out, ⟨HR7.out, HR7b.out⟩, at_none rfl rfl⟩ HBU.out HGO.out
  · have hzb : (x1 == (P.head : Int)) = false := by simpa using hz
    have he : acc size xs P .getTail = (xs, { P with tail := u (xs.getD 1 0), d := some .getCell }) := by
      have hz : ¬ u (xs.getD 1 0) = P.head := by rw [hk]; omega
      simp only [acc, if_neg hz]
    rw [he]
    simp only [rtArr]
    go_enter Try.func37, Try.ntmps37
    clear hz he hk
    go_wp2_with fail
    refine bodyPost_ret (v := .agg (rtArr ⟨1, 101, P.g, P.old, P.head, x1, rm, rb, rgot, P.steps⟩ (.slice A n c) (.slice C m e))) (by simp [results, Try.results37, go_sem, rtArr]) rfl ?_
    exact ro_read HB.out HQ.out (((Below.refl _ w).alloc (Nat.le_refl _) _).alloc (by simp) _) ⟨fun _ => rfl, rfl, rfl, (u_eq HX1.out x1l x1u), rfl, ⟨l1, u_lt _, l3, l4⟩, HR6.out, ⟨HR7.out, HR7b.out⟩, at_some .getCell rfl rfl rfl HR10.out HR11.out (fun h => by cases h)⟩ HBU.out HGO.out
theorem r_putTail (hb : Blk w g 2 (ints xs).toArray) (hN : xs.length = N) (hL : size + 3 ≤ xs.length) (hs : size = 2 ∨ size = 4 ∨ size = 8) (hx : XOk xs) (hq : ¬ q g) (hr : Rel P R) (hd : P.d = some .putTail) (hB : RowQ w q (.slice A n c) R.buf) (hG : RowQ w q (.slice C m e) R.got) :
    Calls Try.prog 36 #[.slice (some ⟨g, 0, none⟩) N N, .int .i64 size, .agg (rtArr R (.slice A n c) (.slice C m e))] w fun e' w' => RO w g q (acc size xs P .putTail).1 (acc size xs P .putTail).2 e' w' := by
  obtain ⟨r1, r2, r3, r4, r5, ⟨l1, l2, l3, l4⟩, r6, ⟨r7, r7b⟩, r8⟩ := hr
  have r1 := r1 (by rw [hd]; exact Option.some_ne_none _)
  unfold AtIs at r8
  rw [hd] at r8
  obtain ⟨r8, r9, r10, r11, r12⟩ := r8
  obtain ⟨kd, pl, rg, ro, rh, rt, rm, rb, rgot, rs⟩ := R
  simp only [Ac.kd, Ac.pl] at r1 r2 r3 r4 r5 r6 r7 r8 r9 r10
  subst r1 r2 r3 r4 r5 r8 r9
  have x0l := hx.1
  have x0u := hx.2.1
  have x1l := hx.2.2.1
  have x1u := hx.2.2.2
  have HXK := Lib.hid hx
  have hg := hb.lt
  obtain ⟨x0, HX0⟩ : ∃ x, Hid (x = xs.getD 0 0) := ⟨_, Lib.hid rfl⟩
  obtain ⟨x1, HX1⟩ : ∃ x, Hid (x = xs.getD 1 0) := ⟨_, Lib.hid rfl⟩
  obtain ⟨x2, HX2⟩ : ∃ x, Hid (x = xs.getD 2 0) := ⟨_, Lib.hid rfl⟩
  have c0 : w.cell? ⟨g, 0, none⟩ = some (.int .i64 x0) := by rw [HX0.out, getD_at xs 0 (by omega)]; exact blk_at hb 0 _
  have c1 : w.cell? ⟨g, 1, none⟩ = some (.int .i64 x1) := by rw [HX1.out, getD_at xs 1 (by omega)]; exact blk_at hb 1 _
  have c2 : w.cell? ⟨g, 2, none⟩ = some (.int .i64 x2) := by rw [HX2.out, getD_at xs 2 (by omega)]; exact blk_at hb 2 _
  rw [← HX0.out] at x0l x0u
  rw [← HX1.out] at x1l x1u
  have u0 : (u x0 : Int) = x0 := by unfold u; omega
  have u1 : (u x1 : Int) = x1 := by unfold u; omega
  have hN3 : 3 < N := by omega
  have HB := Lib.hid hb
  have HN := Lib.hid hN
  have HL := Lib.hid hL
  have HS := Lib.hid hs
  have HBU := Lib.hid hB
  have HGO := Lib.hid hG
  have HQ := Lib.hid hq
  have HR6 := Lib.hid r6
  have HR7 := Lib.hid r7
  have HR7b := Lib.hid r7b
  have HR10 := Lib.hid r10
  have HR11 := Lib.hid r11
  have HR12 := Lib.hid r12
  clear hb hN hL hs hx hB hG hq r6 r7 r7b r10 r11 r12 hd
  obtain ⟨y, HY⟩ : ∃ y, Hid (y = u (x1 - P.head)) := ⟨_, Lib.hid rfl⟩
  have hgap : gap xs P = y := by unfold gap; rw [← HX1.out, u1]; exact HY.out.symm
  have HRO := Lib.hid (fun w => rround_any (x1 - P.head) w)
  rw [← HY.out] at HRO
  have hyl : y < 4294967296 := by rw [HY.out]; exact u_lt _
  by_cases hz : y < size
  · have hzi : (y : Int) < size := by omega
    have he : acc size xs P .putTail = (xs, { P with tail := u (xs.getD 1 0), d := some .putCell }) := by
      have hz : gap xs P < size := by rw [hgap]; exact hz
      simp only [acc, if_pos hz]
    rw [he]
    simp only [rtArr]
    go_enter Try.func36, Try.ntmps36
    clear hz he hgap
    go_wp2_with (go_at_call 50; refine (HRO.out _).mono ?_; rintro e w1 ⟨rfl, rfl⟩)
    refine bodyPost_ret (v := .agg (rtArr ⟨0, 101, P.g, P.old, P.head, x1, ((y : Int) / 2), [], rgot, P.steps⟩ (.slice none 0 0) (.slice C m e))) (by simp [results, Try.results36, go_sem, rtArr]) rfl ?_
    exact ro_read HB.out HQ.out (((Below.refl _ w).alloc (Nat.le_refl _) _).alloc (by simp) _) ⟨fun _ => rfl, rfl, rfl, (u_eq HX1.out x1l x1u), rfl, ⟨l1, u_lt _, l3, l4⟩, HR6.out, ⟨Nat.zero_le _, HR7b.out⟩, at_some .putCell rfl rfl rfl HR10.out HR11.out (fun h => by cases h)⟩ (RowQ.nil _ _) HGO.out
  · have hzi : ¬ (y : Int) < size := by omega
    have he : acc size xs P .putTail = (xs, { P with tail := u (xs.getD 1 0), many := y / 2, bs := [], d := some .spill }) := by
      have hz : ¬ gap xs P < size := by rw [hgap]; exact hz
      simp only [acc, if_neg hz]
      rw [hgap]
    rw [he]
    simp only [rtArr]
    go_enter Try.func36, Try.ntmps36
    clear hz he hgap
    go_wp2_with (go_at_call 50; refine (HRO.out _).mono ?_; rintro e w1 ⟨rfl, rfl⟩)
    refine bodyPost_ret (v := .agg (rtArr ⟨0, 103, P.g, P.old, P.head, x1, ((y : Int) / 2), [], rgot, P.steps⟩ (.slice none 0 0) (.slice C m e))) (by simp [results, Try.results36, go_sem, rtArr]) rfl ?_
    exact ro_read HB.out HQ.out (((Below.refl _ w).alloc (Nat.le_refl _) _).alloc (by simp) _) ⟨fun _ => rfl, rfl, rfl, (u_eq HX1.out x1l x1u), rfl, ⟨l1, u_lt _, by show y / 2 < _; omega, l4⟩, HR6.out, ⟨Nat.zero_le _, Nat.zero_le _⟩, at_some .spill rfl rfl rfl HR10.out HR11.out (fun _ => ⟨by show (y : Int) / 2 = ((y / 2 : Nat) : Int); omega, rfl⟩)⟩ (RowQ.nil _ _) HGO.out
theorem r_getCell (hb : Blk w g 2 (ints xs).toArray) (hN : xs.length = N) (hL : size + 3 ≤ xs.length) (hs : size = 2 ∨ size = 4 ∨ size = 8) (hx : XOk xs) (hq : ¬ q g) (hr : Rel P R) (hd : P.d = some .getCell) (hB : RowQ w q (.slice A n c) R.buf) (hG : RowQ w q (.slice C m e) R.got) :
    Calls Try.prog 37 #[.slice (some ⟨g, 0, none⟩) N N, .int .i64 size, .agg (rtArr R (.slice A n c) (.slice C m e))] w fun e' w' => RO w g q (acc size xs P .getCell).1 (acc size xs P .getCell).2 e' w' := by
  obtain ⟨r1, r2, r3, r4, r5, ⟨l1, l2, l3, l4⟩, r6, ⟨r7, r7b⟩, r8⟩ := hr
  have r1 := r1 (by rw [hd]; exact Option.some_ne_none _)
  unfold AtIs at r8
  rw [hd] at r8
  obtain ⟨r8, r9, r10, r11, r12⟩ := r8
  obtain ⟨kd, pl, rg, ro, rh, rt, rm, rb, rgot, rs⟩ := R
  simp only [Ac.kd, Ac.pl] at r1 r2 r3 r4 r5 r6 r7 r8 r9 r10
  subst r1 r2 r3 r4 r5 r8 r9
  have x0l := hx.1
  have x0u := hx.2.1
  have x1l := hx.2.2.1
  have x1u := hx.2.2.2
  have HXK := Lib.hid hx
  have hg := hb.lt
  obtain ⟨x0, HX0⟩ : ∃ x, Hid (x = xs.getD 0 0) := ⟨_, Lib.hid rfl⟩
  obtain ⟨x1, HX1⟩ : ∃ x, Hid (x = xs.getD 1 0) := ⟨_, Lib.hid rfl⟩
  obtain ⟨x2, HX2⟩ : ∃ x, Hid (x = xs.getD 2 0) := ⟨_, Lib.hid rfl⟩
  have c0 : w.cell? ⟨g, 0, none⟩ = some (.int .i64 x0) := by rw [HX0.out, getD_at xs 0 (by omega)]; exact blk_at hb 0 _
  have c1 : w.cell? ⟨g, 1, none⟩ = some (.int .i64 x1) := by rw [HX1.out, getD_at xs 1 (by omega)]; exact blk_at hb 1 _
  have c2 : w.cell? ⟨g, 2, none⟩ = some (.int .i64 x2) := by rw [HX2.out, getD_at xs 2 (by omega)]; exact blk_at hb 2 _
  rw [← HX0.out] at x0l x0u
  rw [← HX1.out] at x1l x1u
  have u0 : (u x0 : Int) = x0 := by unfold u; omega
  have u1 : (u x1 : Int) = x1 := by unfold u; omega
  have hN3 : 3 < N := by omega
  have HB := Lib.hid hb
  have HN := Lib.hid hN
  have HL := Lib.hid hL
  have HS := Lib.hid hs
  have HBU := Lib.hid hB
  have HGO := Lib.hid hG
  have HQ := Lib.hid hq
  have HR6 := Lib.hid r6
  have HR7 := Lib.hid r7
  have HR7b := Lib.hid r7b
  have HR10 := Lib.hid r10
  have HR11 := Lib.hid r11
  have HR12 := Lib.hid r12
  clear hb hN hL hs hx hB hG hq r6 r7 r7b r10 r11 r12 hd
  obtain ⟨k, HK⟩ : ∃ k, Hid (k = 3 + P.head % size) := ⟨_, Lib.hid rfl⟩
  have hks : k < size + 3 := by rw [HK.out]; have := Nat.mod_lt P.head (show 0 < size by have := HS.out; omega); omega
  have hkN : k < N := by have := HL.out; have := HN.out; omega
  have HCE := Lib.hid (fun w => rcell_any (P.head : Int) size HS.out w)
  have huh : 3 + u (P.head : Int) % size = k := by rw [u_of _ l1, HK.out]
  rw [huh] at HCE
  obtain ⟨x, HX⟩ : ∃ x, Hid (x = xs.getD k 0) := ⟨_, Lib.hid rfl⟩
  have ck : w.cell? ⟨g, k, none⟩ = some (.int .i64 x) := by rw [HX.out, getD_at xs k (by have := HL.out; omega)]; exact blk_at HB.out k _
  have he : acc size xs P .getCell = (xs, { P with old := x, d := some .getDone }) := by
    simp only [acc, HX.out, HK.out]
  rw [he]
  clear he huh
  simp only [rtArr]
  go_enter Try.func37, Try.ntmps37
  go_wp2_with (go_at_call 51; refine (HCE.out _).mono ?_; rintro e w1 ⟨rfl, rfl⟩)
  refine bodyPost_ret (v := .agg (rtArr ⟨1, 102, P.g, x, P.head, P.tail, rm, rb, rgot, P.steps⟩ (.slice A n c) (.slice C m e))) (by simp [results, Try.results37, go_sem, rtArr]) rfl ?_
  exact ro_read HB.out HQ.out (((Below.refl _ w).alloc (Nat.le_refl _) _).alloc (by simp) _) ⟨fun _ => rfl, rfl, rfl, rfl, rfl, ⟨l1, l2, l3, l4⟩, HR6.out, ⟨HR7.out, HR7b.out⟩, at_some .getDone rfl rfl rfl HR10.out HR11.out (fun h => by cases h)⟩ HBU.out HGO.out
theorem r_grabTail (hb : Blk w g 2 (ints xs).toArray) (hN : xs.length = N) (hL : size + 3 ≤ xs.length) (hs : size = 2 ∨ size = 4 ∨ size = 8) (hx : XOk xs) (hq : ¬ q g) (hr : Rel P R) (hd : P.d = some .grabTail) (hB : RowQ w q (.slice A n c) R.buf) (hG : RowQ w q (.slice C m e) R.got) :
    Calls Try.prog 38 #[.slice (some ⟨g, 0, none⟩) N N, .int .i64 size, .agg (rtArr R (.slice A n c) (.slice C m e))] w fun e' w' => RO w g q (acc size xs P .grabTail).1 (acc size xs P .grabTail).2 e' w' := by
  obtain ⟨r1, r2, r3, r4, r5, ⟨l1, l2, l3, l4⟩, r6, ⟨r7, r7b⟩, r8⟩ := hr
  have r1 := r1 (by rw [hd]; exact Option.some_ne_none _)
  unfold AtIs at r8
  rw [hd] at r8
  obtain ⟨r8, r9, r10, r11, r12⟩ := r8
  obtain ⟨kd, pl, rg, ro, rh, rt, rm, rb, rgot, rs⟩ := R
  simp only [Ac.kd, Ac.pl] at r1 r2 r3 r4 r5 r6 r7 r8 r9 r10
  subst r1 r2 r3 r4 r5 r8 r9
  have x0l := hx.1
  have x0u := hx.2.1
  have x1l := hx.2.2.1
  have x1u := hx.2.2.2
  have HXK := Lib.hid hx
  have hg := hb.lt
  obtain ⟨x0, HX0⟩ : ∃ x, Hid (x = xs.getD 0 0) := ⟨_, Lib.hid rfl⟩
  obtain ⟨x1, HX1⟩ : ∃ x, Hid (x = xs.getD 1 0) := ⟨_, Lib.hid rfl⟩
  obtain ⟨x2, HX2⟩ : ∃ x, Hid (x = xs.getD 2 0) := ⟨_, Lib.hid rfl⟩
  have c0 : w.cell? ⟨g, 0, none⟩ = some (.int .i64 x0) := by rw [HX0.out, getD_at xs 0 (by omega)]; exact blk_at hb 0 _
  have c1 : w.cell? ⟨g, 1, none⟩ = some (.int .i64 x1) := by rw [HX1.out, getD_at xs 1 (by omega)]; exact blk_at hb 1 _
  have c2 : w.cell? ⟨g, 2, none⟩ = some (.int .i64 x2) := by rw [HX2.out, getD_at xs 2 (by omega)]; exact blk_at hb 2 _
  rw [← HX0.out] at x0l x0u
  rw [← HX1.out] at x1l x1u
  have u0 : (u x0 : Int) = x0 := by unfold u; omega
  have u1 : (u x1 : Int) = x1 := by unfold u; omega
  have hN3 : 3 < N := by omega
  have HB := Lib.hid hb
  have HN := Lib.hid hN
  have HL := Lib.hid hL
  have HS := Lib.hid hs
  have HBU := Lib.hid hB
  have HGO := Lib.hid hG
  have HQ := Lib.hid hq
  have HR6 := Lib.hid r6
  have HR7 := Lib.hid r7
  have HR7b := Lib.hid r7b
  have HR10 := Lib.hid r10
  have HR11 := Lib.hid r11
  have HR12 := Lib.hid r12
  clear hb hN hL hs hx hB hG hq r6 r7 r7b r10 r11 r12 hd
  obtain ⟨y, HY⟩ : ∃ y, Hid (y = u (x1 - P.head)) := ⟨_, Lib.hid rfl⟩
  have hgap : gap xs P = y := by unfold gap; rw [← HX1.out, u1]; exact HY.out.symm
  have HRO := Lib.hid (fun w => rround_any (x1 - P.head) w)
  rw [← HY.out] at HRO
  have hyl : y < 4294967296 := by rw [HY.out]; exact u_lt _
  have he : acc size xs P .grabTail = (xs, { P with tail := u (xs.getD 1 0), many := y - y / 2, bs := [], d := if y = 0 then some .grabLoad else if size / 2 < y - y / 2 then some .grabHead else some .grabCells }) := by
    simp only [acc]
    rw [hgap]
  rw [he]
  clear he hgap HY
  have hml : y - y / 2 < 4294967296 := by omega
  have hs8 : size ≤ 8 := by have := HS.out; omega
  by_cases hz : y = 0
  · subst hz
    simp only [rtArr]
    go_enter Try.func38, Try.ntmps38
    go_wp2_with (go_at_call 50; refine (HRO.out _).mono ?_; rintro e w1 ⟨rfl, rfl⟩)
    refine bodyPost_ret (v := .agg (rtArr ⟨2, 99, P.g, P.old, P.head, x1, 0, [], rgot, P.steps⟩ (.slice none 0 0) (.slice C m e))) (by simp [results, Try.results38, go_sem, rtArr]) rfl ?_
    exact ro_read HB.out HQ.out (((Below.refl _ w).alloc (Nat.le_refl _) _).alloc (by simp) _) ⟨fun _ => rfl, rfl, rfl, (u_eq HX1.out x1l x1u), rfl, ⟨l1, u_lt _, hml, l4⟩, HR6.out, ⟨Nat.zero_le _, Nat.zero_le _⟩, at_some .grabLoad rfl rfl rfl HR10.out HR11.out (fun h => by cases h)⟩ (RowQ.nil _ _) HGO.out
  · rw [if_neg hz]
    have hb0 : ((y : Int) - (y : Int) / 2 == 0) = false := by simp; omega
    by_cases hz2 : size / 2 < y - y / 2
    · rw [if_pos hz2]
      have hgt : (y : Int) - (y : Int) / 2 > (size : Int) / 2 := by omega
      simp only [rtArr]
      go_enter Try.func38, Try.ntmps38
      clear hz hz2
      go_wp2_with (go_at_call 50; refine (HRO.out _).mono ?_; rintro e w1 ⟨rfl, rfl⟩)
      refine bodyPost_ret (v := .agg (rtArr ⟨2, 97, P.g, P.old, P.head, x1, ((y : Int) - (y : Int) / 2), [], rgot, P.steps⟩ (.slice none 0 0) (.slice C m e))) (by simp [results, Try.results38, go_sem, rtArr]) rfl ?_
      exact ro_read HB.out HQ.out (((Below.refl _ w).alloc (Nat.le_refl _) _).alloc (by simp) _) ⟨fun _ => rfl, rfl, rfl, (u_eq HX1.out x1l x1u), rfl, ⟨l1, u_lt _, hml, l4⟩, HR6.out, ⟨Nat.zero_le _, Nat.zero_le _⟩, at_some .grabHead rfl rfl rfl HR10.out HR11.out (fun h => by cases h)⟩ (RowQ.nil _ _) HGO.out
    · rw [if_neg hz2]
      have hgt : ¬ (y : Int) - (y : Int) / 2 > (size : Int) / 2 := by omega
      simp only [rtArr]
      go_enter Try.func38, Try.ntmps38
      clear hz hz2
      go_wp2_with (go_at_call 50; refine (HRO.out _).mono ?_; rintro e w1 ⟨rfl, rfl⟩)
      refine bodyPost_ret (v := .agg (rtArr ⟨2, 101, P.g, P.old, P.head, x1, ((y : Int) - (y : Int) / 2), [], rgot, P.steps⟩ (.slice none 0 0) (.slice C m e))) (by simp [results, Try.results38, go_sem, rtArr]) rfl ?_
      exact ro_read HB.out HQ.out (((Below.refl _ w).alloc (Nat.le_refl _) _).alloc (by simp) _) ⟨fun _ => rfl, rfl, rfl, (u_eq HX1.out x1l x1u), rfl, ⟨l1, u_lt _, hml, l4⟩, HR6.out, ⟨Nat.zero_le _, Nat.zero_le _⟩, at_some .grabCells rfl rfl rfl HR10.out HR11.out (fun _ => ⟨by show (y : Int) - (y : Int) / 2 = ((y - y / 2 : Nat) : Int); omega, rfl⟩)⟩ (RowQ.nil _ _) HGO.out
end
end Go.Proofs.Ythnhjhlpimgkiaa

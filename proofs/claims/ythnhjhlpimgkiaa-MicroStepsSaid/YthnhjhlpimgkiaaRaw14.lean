/-
  The reference's accesses that write a cell (printed by wip/genraw.py).
-/
import Derived.Test.YthnhjhlpimgkiaaRad14
namespace Go.Proofs.Ythnhjhlpimgkiaa
open Go.RowKit
theorem ro_gen {w w' : World} {g : Nat} {q : Nat → Prop} {xs' : List Int} {P' : Pt} {R' : Rt} {B' G' : Value} (hb : Blk w' g 2 (ints xs').toArray) (hm : Mv [g] w w') (hrel : Rel P' R') (hB : RowQ w' (Qn q w) B' R'.buf) (hG : RowQ w' (Qn q w) G' R'.got) :
    RO w g q xs' P' (.returned (.agg (rtArr R' B' G'))) w' := ⟨R', B', G', rfl, hrel, hB, hG, hb, hm⟩
theorem ro_mv {w w' : World} {g : Nat} {i : Nat} {x : Int} (h2 : Below w.heap.size (w.setCell ⟨g, i, none⟩ (.int .i64 x)) w') : Mv [g] w w' :=
  ((Mv.refl [g] w).set ⟨g, i, none⟩ _ (by simp)).trans (Mv.of_below h2 (by simp))
theorem ro_blk {w w' : World} {g : Nat} {xs : List Int} {i : Nat} {x : Int} (hb : Blk w g 2 (ints xs).toArray) (h2 : Below w.heap.size (w.setCell ⟨g, i, none⟩ (.int .i64 x)) w') : Blk w' g 2 (ints (xs.set i x)).toArray := by
  have h := hb.set_ i (.int .i64 x)
  rw [ints_set] at h
  exact h.below h2 hb.lt
theorem row_new {w w' : World} {q : Nat → Prop} {b : Nat} {x : Int} (h : Blk w' b 2 #[.int .i64 x]) (hb : w.heap.size ≤ b) : RowQ w' (Qn q w) (.slice (some ⟨b, 0, none⟩) 1 1) [x] := by
  refine ⟨_, 1, 1, rfl, rfl, .inr ⟨b, 0, rfl, h.lt, .inr hb, fun j u hu => ?_⟩⟩
  rw [Nat.zero_add, h.cell j]
  simpa [ints] using hu
theorem not_q {q : Nat → Prop} {g : Nat} (h : ¬ q g) : ∀ b ∈ [g], ¬ q b := by
  intro b hb
  rw [List.mem_singleton] at hb
  rw [hb]
  exact h
theorem ro_write {w w' : World} {g : Nat} {q : Nat → Prop} {xs : List Int} {i : Nat} {x : Int} {P' : Pt} {R' : Rt} {B' G' : Value} (hb : Blk w g 2 (ints xs).toArray) (hq : ¬ q g) (h2 : Below w.heap.size (w.setCell ⟨g, i, none⟩ (.int .i64 x)) w') (hrel : Rel P' R') (hB : RowQ w q B' R'.buf) (hG : RowQ w q G' R'.got) :
    RO w g q (xs.set i x) P' (.returned (.agg (rtArr R' B' G'))) w' := ro_gen (ro_blk hb h2) (ro_mv h2) hrel (hB.mv (ro_mv h2) (not_q hq)) (hG.mv (ro_mv h2) (not_q hq))
/-- The same, with one number got, in the last block. -/
theorem ro_write1 {w W : World} {g : Nat} {q : Nat → Prop} {xs : List Int} {i b : Nat} {x y : Int} {P' : Pt} {R' : Rt} {B' : Value} (hb : Blk w g 2 (ints xs).toArray) (hq : ¬ q g) (h2 : Below w.heap.size (w.setCell ⟨g, i, none⟩ (.int .i64 x)) W) (hW : b = W.heap.size) (hrel : Rel P' R') (hB : RowQ w q B' R'.buf) (hG : R'.got = [y]) :
    RO w g q (xs.set i x) P' (.returned (.agg (rtArr R' B' (.slice (some ⟨b, 0, none⟩) 1 1)))) (W.alloc (.cells #[.int .i64 y] 2)) := by
  have hs : w.heap.size ≤ W.heap.size := by have := h2.size; simpa using this
  have h3 : Below w.heap.size (w.setCell ⟨g, i, none⟩ (.int .i64 x)) (W.alloc (.cells #[.int .i64 y] 2)) := h2.alloc hs _
  refine ro_gen (ro_blk hb h3) (ro_mv h3) hrel (hB.mv (ro_mv h3) (not_q hq)) ?_
  rw [hG]
  subst hW
  exact row_new (Blk.new _ _ _) hs
section
variable {w : World} {g N size : Nat} {q : Nat → Prop} {xs : List Int} {P : Pt} {R : Rt} {A C : Option Addr} {n c m e : Nat}
theorem r_putNext (hb : Blk w g 2 (ints xs).toArray) (hN : xs.length = N) (hL : size + 3 ≤ xs.length) (hs : size = 2 ∨ size = 4 ∨ size = 8) (hx : XOk xs) (hq : ¬ q g) (hr : Rel P R) (hd : P.d = some .putNext) (hB : RowQ w q (.slice A n c) R.buf) (hG : RowQ w q (.slice C m e) R.got) :
    Calls Try.prog 36 #[.slice (some ⟨g, 0, none⟩) N N, .int .i64 size, .agg (rtArr R (.slice A n c) (.slice C m e))] w fun e' w' => RO w g q (acc size xs P .putNext).1 (acc size xs P .putNext).2 e' w' := by
  obtain ⟨r1, r2, r3, r4, r5, ⟨l1, l2, l3, l4⟩, r6, ⟨r7, r7b⟩, r8⟩ := hr
  have r1 := r1 (by rw [hd]; exact Option.some_ne_none _)
  unfold AtIs at r8
  rw [hd] at r8
  obtain ⟨r8, r9, r10, r11, r12⟩ := r8
  obtain ⟨kd, pl, rg, ro, rh, rt, rm, rb, rgot, rs⟩ := R
  simp only [Ac.kd, Ac.pl] at r1 r2 r3 r4 r5 r6 r7 r8 r9 r10
  subst r1 r2 r3 r4 r5 r8 r9
  have x0l := hx.1
  have x0u := hx.2.1
  have x1l := hx.2.2.1
  have x1u := hx.2.2.2
  have HXK := Lib.hid hx
  have hg := hb.lt
  obtain ⟨x0, HX0⟩ : ∃ x, Hid (x = xs.getD 0 0) := ⟨_, Lib.hid rfl⟩
  obtain ⟨x1, HX1⟩ : ∃ x, Hid (x = xs.getD 1 0) := ⟨_, Lib.hid rfl⟩
  obtain ⟨x2, HX2⟩ : ∃ x, Hid (x = xs.getD 2 0) := ⟨_, Lib.hid rfl⟩
  have c0 : w.cell? ⟨g, 0, none⟩ = some (.int .i64 x0) := by rw [HX0.out, getD_at xs 0 (by omega)]; exact blk_at hb 0 _
  have c1 : w.cell? ⟨g, 1, none⟩ = some (.int .i64 x1) := by rw [HX1.out, getD_at xs 1 (by omega)]; exact blk_at hb 1 _
  have c2 : w.cell? ⟨g, 2, none⟩ = some (.int .i64 x2) := by rw [HX2.out, getD_at xs 2 (by omega)]; exact blk_at hb 2 _
  rw [← HX0.out] at x0l x0u
  rw [← HX1.out] at x1l x1u
  have u0 : (u x0 : Int) = x0 := by unfold u; omega
  have u1 : (u x1 : Int) = x1 := by unfold u; omega
  have hN3 : 3 < N := by omega
  have HB := Lib.hid hb
  have HN := Lib.hid hN
  have HL := Lib.hid hL
  have HS := Lib.hid hs
  have HBU := Lib.hid hB
  have HGO := Lib.hid hG
  have HQ := Lib.hid hq
  have HR6 := Lib.hid r6
  have HR7 := Lib.hid r7
  have HR7b := Lib.hid r7b
  have HR10 := Lib.hid r10
  have HR11 := Lib.hid r11
  have HR12 := Lib.hid r12
  clear hb hN hL hs hx hB hG hq r6 r7 r7b r10 r11 r12 hd
  by_cases hz : x2 = P.old
  · have hz' : xs.getD 2 0 = P.old := by rw [← HX2.out]; exact hz
    have HCAS : Hid (∀ W, Blk W g 2 (ints xs).toArray → Calls Try.prog 49 #[.slice (some ⟨g, 0, none⟩) N N, .int .i64 2, .int .i64 P.old, .int .i64 P.g] W fun e w' => e = .returned (.bool true) ∧ w' = W.setCell ⟨g, 2, none⟩ (.int .i64 P.g)) := Lib.hid (fun W hW => by
      have h := rcas_any hW HN.out 2 (by have := HN.out; omega) (P.old) (P.g)
      rw [← getD_at xs 2 (by have := HN.out; omega), ← HX2.out] at h
      rw [if_pos hz] at h
      have hdz : decide (x2 = P.old) = true := by simpa using hz
      rw [hdz] at h
      exact h)
    by_cases h0 : P.old = 0
    · have he : acc size xs P .putNext = (xs.set 2 P.g, { P with d := none, gs := [] }) := by
        simp only [acc, if_pos hz', if_pos h0]
      have h0b : (P.old == 0) = true := by simpa using h0
      rw [he]
      clear he hz' h0 hz
      simp only [rtArr]
      go_enter Try.func36, Try.ntmps36
      go_wp2_with (go_at_call 49; refine (HCAS.out _ ((HB.out.alloc _).alloc _)).mono ?_; rintro e w1 ⟨rfl, rfl⟩)
      refine bodyPost_ret (v := .agg (rtArr ⟨0, 122, P.g, P.old, P.head, P.tail, rm, rb, rgot, P.steps⟩ (.slice A n c) (.slice C m e))) (by simp [results, Try.results36, go_sem, rtArr]) rfl ?_
      exact ro_write HB.out HQ.out (((Below.refl _ (w.setCell ⟨g, 2, none⟩ (.int .i64 P.g))).alloc (by simp) _).alloc (by simp) _) ⟨fun _ => rfl, rfl, rfl, rfl, rfl, ⟨l1, l2, l3, l4⟩, HR10.out, ⟨HR7.out, HR7b.out⟩, at_none rfl rfl⟩ HBU.out HGO.out
    · have he : acc size xs P .putNext = (xs.set 2 P.g, { P with g := P.old, d := some .putHead }) := by
        simp only [acc, if_pos hz', if_neg h0]
      have h0b : (P.old == 0) = false := by simpa using h0
      rw [he]
      clear he hz' h0 hz
      simp only [rtArr]
      go_enter Try.func36, Try.ntmps36
      go_wp2_with (go_at_call 49; refine (HCAS.out _ ((HB.out.alloc _).alloc _)).mono ?_; rintro e w1 ⟨rfl, rfl⟩)
      refine bodyPost_ret (v := .agg (rtArr ⟨0, 99, P.old, P.old, P.head, P.tail, rm, rb, rgot, P.steps⟩ (.slice A n c) (.slice C m e))) (by simp [results, Try.results36, go_sem, rtArr]) rfl ?_
      exact ro_write HB.out HQ.out (((Below.refl _ (w.setCell ⟨g, 2, none⟩ (.int .i64 P.g))).alloc (by simp) _).alloc (by simp) _) ⟨fun _ => rfl, rfl, rfl, rfl, rfl, ⟨l1, l2, l3, l4⟩, HR6.out, ⟨HR7.out, HR7b.out⟩, at_some .putHead rfl rfl rfl HR10.out HR11.out (fun h => by cases h)⟩ HBU.out HGO.out
  · have hz' : ¬ xs.getD 2 0 = P.old := by rw [← HX2.out]; exact hz
    have HCAS : Hid (∀ W, Blk W g 2 (ints xs).toArray → Calls Try.prog 49 #[.slice (some ⟨g, 0, none⟩) N N, .int .i64 2, .int .i64 P.old, .int .i64 P.g] W fun e w' => e = .returned (.bool false) ∧ w' = W) := Lib.hid (fun W hW => by
      have h := rcas_any hW HN.out 2 (by have := HN.out; omega) (P.old) (P.g)
      rw [← getD_at xs 2 (by have := HN.out; omega), ← HX2.out] at h
      rw [if_neg hz] at h
      have hdz : decide (x2 = P.old) = false := by simpa using hz
      rw [hdz] at h
      exact h)
    have he : acc size xs P .putNext = (xs, { P with d := some .putLoad }) := by
      simp only [acc, if_neg hz']
    rw [he]
    clear he hz' hz
    simp only [rtArr]
    go_enter Try.func36, Try.ntmps36
    go_wp2_with (go_at_call 49; refine (HCAS.out _ ((HB.out.alloc _).alloc _)).mono ?_; rintro e w1 ⟨rfl, rfl⟩)
    refine bodyPost_ret (v := .agg (rtArr ⟨0, 97, P.g, P.old, P.head, P.tail, rm, rb, rgot, P.steps⟩ (.slice A n c) (.slice C m e))) (by simp [results, Try.results36, go_sem, rtArr]) rfl ?_
    exact ro_read HB.out HQ.out (((Below.refl _ w).alloc (Nat.le_refl _) _).alloc (by simp) _) ⟨fun _ => rfl, rfl, rfl, rfl, rfl, ⟨l1, l2, l3, l4⟩, HR6.out, ⟨HR7.out, HR7b.out⟩, at_some .putLoad rfl rfl rfl HR10.out HR11.out (fun h => by cases h)⟩ HBU.out HGO.out
theorem r_getNext (hb : Blk w g 2 (ints xs).toArray) (hN : xs.length = N) (hL : size + 3 ≤ xs.length) (hs : size = 2 ∨ size = 4 ∨ size = 8) (hx : XOk xs) (hq : ¬ q g) (hr : Rel P R) (hd : P.d = some .getNext) (hB : RowQ w q (.slice A n c) R.buf) (hG : RowQ w q (.slice C m e) R.got) :
    Calls Try.prog 37 #[.slice (some ⟨g, 0, none⟩) N N, .int .i64 size, .agg (rtArr R (.slice A n c) (.slice C m e))] w fun e' w' => RO w g q (acc size xs P .getNext).1 (acc size xs P .getNext).2 e' w' := by
  obtain ⟨r1, r2, r3, r4, r5, ⟨l1, l2, l3, l4⟩, r6, ⟨r7, r7b⟩, r8⟩ := hr
  have r1 := r1 (by rw [hd]; exact Option.some_ne_none _)
  unfold AtIs at r8
  rw [hd] at r8
  obtain ⟨r8, r9, r10, r11, r12⟩ := r8
  obtain ⟨kd, pl, rg, ro, rh, rt, rm, rb, rgot, rs⟩ := R
  simp only [Ac.kd, Ac.pl] at r1 r2 r3 r4 r5 r6 r7 r8 r9 r10
  subst r1 r2 r3 r4 r5 r8 r9
  have x0l := hx.1
  have x0u := hx.2.1
  have x1l := hx.2.2.1
  have x1u := hx.2.2.2
  have HXK := Lib.hid hx
  have hg := hb.lt
  obtain ⟨x0, HX0⟩ : ∃ x, Hid (x = xs.getD 0 0) := ⟨_, Lib.hid rfl⟩
  obtain ⟨x1, HX1⟩ : ∃ x, Hid (x = xs.getD 1 0) := ⟨_, Lib.hid rfl⟩
  obtain ⟨x2, HX2⟩ : ∃ x, Hid (x = xs.getD 2 0) := ⟨_, Lib.hid rfl⟩
  have c0 : w.cell? ⟨g, 0, none⟩ = some (.int .i64 x0) := by rw [HX0.out, getD_at xs 0 (by omega)]; exact blk_at hb 0 _
  have c1 : w.cell? ⟨g, 1, none⟩ = some (.int .i64 x1) := by rw [HX1.out, getD_at xs 1 (by omega)]; exact blk_at hb 1 _
  have c2 : w.cell? ⟨g, 2, none⟩ = some (.int .i64 x2) := by rw [HX2.out, getD_at xs 2 (by omega)]; exact blk_at hb 2 _
  rw [← HX0.out] at x0l x0u
  rw [← HX1.out] at x1l x1u
  have u0 : (u x0 : Int) = x0 := by unfold u; omega
  have u1 : (u x1 : Int) = x1 := by unfold u; omega
  have hN3 : 3 < N := by omega
  have HB := Lib.hid hb
  have HN := Lib.hid hN
  have HL := Lib.hid hL
  have HS := Lib.hid hs
  have HBU := Lib.hid hB
  have HGO := Lib.hid hG
  have HQ := Lib.hid hq
  have HR6 := Lib.hid r6
  have HR7 := Lib.hid r7
  have HR7b := Lib.hid r7b
  have HR10 := Lib.hid r10
  have HR11 := Lib.hid r11
  have HR12 := Lib.hid r12
  clear hb hN hL hs hx hB hG hq r6 r7 r7b r10 r11 r12 hd
  by_cases hz : x2 = P.old
  · have hz' : xs.getD 2 0 = P.old := by rw [← HX2.out]; exact hz
    have HCAS : Hid (∀ W, Blk W g 2 (ints xs).toArray → Calls Try.prog 49 #[.slice (some ⟨g, 0, none⟩) N N, .int .i64 2, .int .i64 P.old, .int .i64 0] W fun e w' => e = .returned (.bool true) ∧ w' = W.setCell ⟨g, 2, none⟩ (.int .i64 0)) := Lib.hid (fun W hW => by
      have h := rcas_any hW HN.out 2 (by have := HN.out; omega) (P.old) (0)
      rw [← getD_at xs 2 (by have := HN.out; omega), ← HX2.out] at h
      rw [if_pos hz] at h
      have hdz : decide (x2 = P.old) = true := by simpa using hz
      rw [hdz] at h
      exact h)
    have he : acc size xs P .getNext = (xs.set 2 0, { P with d := none, gs := [P.old] }) := by
      simp only [acc, if_pos hz']
    rw [he]
    clear he hz' hz
    simp only [rtArr]
    go_enter Try.func37, Try.ntmps37
    go_wp2_with (go_at_call 49; refine (HCAS.out _ ((HB.out.alloc _).alloc _)).mono ?_; rintro e w1 ⟨rfl, rfl⟩)
    refine bodyPost_ret (v := .agg (rtArr ⟨1, 122, P.g, P.old, P.head, P.tail, rm, rb, [P.old], P.steps⟩ (.slice A n c) (.slice (some ⟨w.heap.size + 2, 0, none⟩) 1 1))) (by simp [results, Try.results37, go_sem, rtArr]) rfl ?_
    exact ro_write1 HB.out HQ.out (((Below.refl _ (w.setCell ⟨g, 2, none⟩ (.int .i64 0))).alloc (by simp) _).alloc (by simp) _) (by simp) ⟨fun _ => rfl, rfl, rfl, rfl, rfl, ⟨l1, l2, l3, l4⟩, rfl, ⟨HR7.out, HR7b.out⟩, at_none rfl rfl⟩ HBU.out rfl
  · have hz' : ¬ xs.getD 2 0 = P.old := by rw [← HX2.out]; exact hz
    have HCAS : Hid (∀ W, Blk W g 2 (ints xs).toArray → Calls Try.prog 49 #[.slice (some ⟨g, 0, none⟩) N N, .int .i64 2, .int .i64 P.old, .int .i64 0] W fun e w' => e = .returned (.bool false) ∧ w' = W) := Lib.hid (fun W hW => by
      have h := rcas_any hW HN.out 2 (by have := HN.out; omega) (P.old) (0)
      rw [← getD_at xs 2 (by have := HN.out; omega), ← HX2.out] at h
      rw [if_neg hz] at h
      have hdz : decide (x2 = P.old) = false := by simpa using hz
      rw [hdz] at h
      exact h)
    have he : acc size xs P .getNext = (xs, { P with d := some .getHead }) := by
      simp only [acc, if_neg hz']
    rw [he]
    clear he hz' hz
    simp only [rtArr]
    go_enter Try.func37, Try.ntmps37
    go_wp2_with (go_at_call 49; refine (HCAS.out _ ((HB.out.alloc _).alloc _)).mono ?_; rintro e w1 ⟨rfl, rfl⟩)
    refine bodyPost_ret (v := .agg (rtArr ⟨1, 99, P.g, P.old, P.head, P.tail, rm, rb, rgot, P.steps⟩ (.slice A n c) (.slice C m e))) (by simp [results, Try.results37, go_sem, rtArr]) rfl ?_
    exact ro_read HB.out HQ.out (((Below.refl _ w).alloc (Nat.le_refl _) _).alloc (by simp) _) ⟨fun _ => rfl, rfl, rfl, rfl, rfl, ⟨l1, l2, l3, l4⟩, HR6.out, ⟨HR7.out, HR7b.out⟩, at_some .getHead rfl rfl rfl HR10.out HR11.out (fun h => by cases h)⟩ HBU.out HGO.out
theorem r_grabNext (hb : Blk w g 2 (ints xs).toArray) (hN : xs.length = N) (hL : size + 3 ≤ xs.length) (hs : size = 2 ∨ size = 4 ∨ size = 8) (hx : XOk xs) (hq : ¬ q g) (hr : Rel P R) (hd : P.d = some .grabNext) (hB : RowQ w q (.slice A n c) R.buf) (hG : RowQ w q (.slice C m e) R.got) :
    Calls Try.prog 38 #[.slice (some ⟨g, 0, none⟩) N N, .int .i64 size, .agg (rtArr R (.slice A n c) (.slice C m e))] w fun e' w' => RO w g q (acc size xs P .grabNext).1 (acc size xs P .grabNext).2 e' w' := by
  obtain ⟨r1, r2, r3, r4, r5, ⟨l1, l2, l3, l4⟩, r6, ⟨r7, r7b⟩, r8⟩ := hr
  have r1 := r1 (by rw [hd]; exact Option.some_ne_none _)
  unfold AtIs at r8
  rw [hd] at r8
  obtain ⟨r8, r9, r10, r11, r12⟩ := r8
  obtain ⟨kd, pl, rg, ro, rh, rt, rm, rb, rgot, rs⟩ := R
  simp only [Ac.kd, Ac.pl] at r1 r2 r3 r4 r5 r6 r7 r8 r9 r10
  subst r1 r2 r3 r4 r5 r8 r9
  have x0l := hx.1
  have x0u := hx.2.1
  have x1l := hx.2.2.1
  have x1u := hx.2.2.2
  have HXK := Lib.hid hx
  have hg := hb.lt
  obtain ⟨x0, HX0⟩ : ∃ x, Hid (x = xs.getD 0 0) := ⟨_, Lib.hid rfl⟩
  obtain ⟨x1, HX1⟩ : ∃ x, Hid (x = xs.getD 1 0) := ⟨_, Lib.hid rfl⟩
  obtain ⟨x2, HX2⟩ : ∃ x, Hid (x = xs.getD 2 0) := ⟨_, Lib.hid rfl⟩
  have c0 : w.cell? ⟨g, 0, none⟩ = some (.int .i64 x0) := by rw [HX0.out, getD_at xs 0 (by omega)]; exact blk_at hb 0 _
  have c1 : w.cell? ⟨g, 1, none⟩ = some (.int .i64 x1) := by rw [HX1.out, getD_at xs 1 (by omega)]; exact blk_at hb 1 _
  have c2 : w.cell? ⟨g, 2, none⟩ = some (.int .i64 x2) := by rw [HX2.out, getD_at xs 2 (by omega)]; exact blk_at hb 2 _
  rw [← HX0.out] at x0l x0u
  rw [← HX1.out] at x1l x1u
  have u0 : (u x0 : Int) = x0 := by unfold u; omega
  have u1 : (u x1 : Int) = x1 := by unfold u; omega
  have hN3 : 3 < N := by omega
  have HB := Lib.hid hb
  have HN := Lib.hid hN
  have HL := Lib.hid hL
  have HS := Lib.hid hs
  have HBU := Lib.hid hB
  have HGO := Lib.hid hG
  have HQ := Lib.hid hq
  have HR6 := Lib.hid r6
  have HR7 := Lib.hid r7
  have HR7b := Lib.hid r7b
  have HR10 := Lib.hid r10
  have HR11 := Lib.hid r11
  have HR12 := Lib.hid r12
  clear hb hN hL hs hx hB hG hq r6 r7 r7b r10 r11 r12 hd
  by_cases hz : x2 = P.old
  · have hz' : xs.getD 2 0 = P.old := by rw [← HX2.out]; exact hz
    have HCAS : Hid (∀ W, Blk W g 2 (ints xs).toArray → Calls Try.prog 49 #[.slice (some ⟨g, 0, none⟩) N N, .int .i64 2, .int .i64 P.old, .int .i64 0] W fun e w' => e = .returned (.bool true) ∧ w' = W.setCell ⟨g, 2, none⟩ (.int .i64 0)) := Lib.hid (fun W hW => by
      have h := rcas_any hW HN.out 2 (by have := HN.out; omega) (P.old) (0)
      rw [← getD_at xs 2 (by have := HN.out; omega), ← HX2.out] at h
      rw [if_pos hz] at h
      have hdz : decide (x2 = P.old) = true := by simpa using hz
      rw [hdz] at h
      exact h)
    have he : acc size xs P .grabNext = (xs.set 2 0, { P with d := none, gs := [P.old] }) := by
      simp only [acc, if_pos hz']
    rw [he]
    clear he hz' hz
    simp only [rtArr]
    go_enter Try.func38, Try.ntmps38
    go_wp2_with (go_at_call 49; refine (HCAS.out _ ((HB.out.alloc _).alloc _)).mono ?_; rintro e w1 ⟨rfl, rfl⟩)
    refine bodyPost_ret (v := .agg (rtArr ⟨2, 122, P.g, P.old, P.head, P.tail, rm, rb, [P.old], P.steps⟩ (.slice A n c) (.slice (some ⟨w.heap.size + 2, 0, none⟩) 1 1))) (by simp [results, Try.results38, go_sem, rtArr]) rfl ?_
    exact ro_write1 HB.out HQ.out (((Below.refl _ (w.setCell ⟨g, 2, none⟩ (.int .i64 0))).alloc (by simp) _).alloc (by simp) _) (by simp) ⟨fun _ => rfl, rfl, rfl, rfl, rfl, ⟨l1, l2, l3, l4⟩, rfl, ⟨HR7.out, HR7b.out⟩, at_none rfl rfl⟩ HBU.out rfl
  · have hz' : ¬ xs.getD 2 0 = P.old := by rw [← HX2.out]; exact hz
    have HCAS : Hid (∀ W, Blk W g 2 (ints xs).toArray → Calls Try.prog 49 #[.slice (some ⟨g, 0, none⟩) N N, .int .i64 2, .int .i64 P.old, .int .i64 0] W fun e w' => e = .returned (.bool false) ∧ w' = W) := Lib.hid (fun W hW => by
      have h := rcas_any hW HN.out 2 (by have := HN.out; omega) (P.old) (0)
      rw [← getD_at xs 2 (by have := HN.out; omega), ← HX2.out] at h
      rw [if_neg hz] at h
      have hdz : decide (x2 = P.old) = false := by simpa using hz
      rw [hdz] at h
      exact h)
    have he : acc size xs P .grabNext = (xs, { P with d := some .grabHead }) := by
      simp only [acc, if_neg hz']
    rw [he]
    clear he hz' hz
    simp only [rtArr]
    go_enter Try.func38, Try.ntmps38
    go_wp2_with (go_at_call 49; refine (HCAS.out _ ((HB.out.alloc _).alloc _)).mono ?_; rintro e w1 ⟨rfl, rfl⟩)
    refine bodyPost_ret (v := .agg (rtArr ⟨2, 97, P.g, P.old, P.head, P.tail, rm, rb, rgot, P.steps⟩ (.slice A n c) (.slice C m e))) (by simp [results, Try.results38, go_sem, rtArr]) rfl ?_
    exact ro_read HB.out HQ.out (((Below.refl _ w).alloc (Nat.le_refl _) _).alloc (by simp) _) ⟨fun _ => rfl, rfl, rfl, rfl, rfl, ⟨l1, l2, l3, l4⟩, HR6.out, ⟨HR7.out, HR7b.out⟩, at_some .grabHead rfl rfl rfl HR10.out HR11.out (fun h => by cases h)⟩ HBU.out HGO.out
theorem r_putDone (hb : Blk w g 2 (ints xs).toArray) (hN : xs.length = N) (hL : size + 3 ≤ xs.length) (hs : size = 2 ∨ size = 4 ∨ size = 8) (hx : XOk xs) (hq : ¬ q g) (hr : Rel P R) (hd : P.d = some .putDone) (hB : RowQ w q (.slice A n c) R.buf) (hG : RowQ w q (.slice C m e) R.got) :
    Calls Try.prog 36 #[.slice (some ⟨g, 0, none⟩) N N, .int .i64 size, .agg (rtArr R (.slice A n c) (.slice C m e))] w fun e' w' => RO w g q (acc size xs P .putDone).1 (acc size xs P .putDone).2 e' w' := by
  obtain ⟨r1, r2, r3, r4, r5, ⟨l1, l2, l3, l4⟩, r6, ⟨r7, r7b⟩, r8⟩ := hr
  have r1 := r1 (by rw [hd]; exact Option.some_ne_none _)
  unfold AtIs at r8
  rw [hd] at r8
  obtain ⟨r8, r9, r10, r11, r12⟩ := r8
  obtain ⟨kd, pl, rg, ro, rh, rt, rm, rb, rgot, rs⟩ := R
  simp only [Ac.kd, Ac.pl] at r1 r2 r3 r4 r5 r6 r7 r8 r9 r10
  subst r1 r2 r3 r4 r5 r8 r9
  have x0l := hx.1
  have x0u := hx.2.1
  have x1l := hx.2.2.1
  have x1u := hx.2.2.2
  have HXK := Lib.hid hx
  have hg := hb.lt
  obtain ⟨x0, HX0⟩ : ∃ x, Hid (x = xs.getD 0 0) := ⟨_, Lib.hid rfl⟩
  obtain ⟨x1, HX1⟩ : ∃ x, Hid (x = xs.getD 1 0) := ⟨_, Lib.hid rfl⟩
  obtain ⟨x2, HX2⟩ : ∃ x, Hid (x = xs.getD 2 0) := ⟨_, Lib.hid rfl⟩
  have c0 : w.cell? ⟨g, 0, none⟩ = some (.int .i64 x0) := by rw [HX0.out, getD_at xs 0 (by omega)]; exact blk_at hb 0 _
  have c1 : w.cell? ⟨g, 1, none⟩ = some (.int .i64 x1) := by rw [HX1.out, getD_at xs 1 (by omega)]; exact blk_at hb 1 _
  have c2 : w.cell? ⟨g, 2, none⟩ = some (.int .i64 x2) := by rw [HX2.out, getD_at xs 2 (by omega)]; exact blk_at hb 2 _
  rw [← HX0.out] at x0l x0u
  rw [← HX1.out] at x1l x1u
  have u0 : (u x0 : Int) = x0 := by unfold u; omega
  have u1 : (u x1 : Int) = x1 := by unfold u; omega
  have hN3 : 3 < N := by omega
  have HB := Lib.hid hb
  have HN := Lib.hid hN
  have HL := Lib.hid hL
  have HS := Lib.hid hs
  have HBU := Lib.hid hB
  have HGO := Lib.hid hG
  have HQ := Lib.hid hq
  have HR6 := Lib.hid r6
  have HR7 := Lib.hid r7
  have HR7b := Lib.hid r7b
  have HR10 := Lib.hid r10
  have HR11 := Lib.hid r11
  have HR12 := Lib.hid r12
  clear hb hN hL hs hx hB hG hq r6 r7 r7b r10 r11 r12 hd
  have HRO := Lib.hid (fun w => rround_any ((P.tail : Int) + 1) w)
  have he : acc size xs P .putDone = (xs.set 1 (u ((P.tail : Int) + 1)), { P with d := none, gs := [] }) := rfl
  rw [he]
  clear he
  generalize u ((P.tail : Int) + 1) = y at HRO ⊢
  have f1 := HB.out.frozen 1
  simp only [rtArr]
  go_enter Try.func36, Try.ntmps36
  go_wp2_with (go_at_call 50; refine (HRO.out _).mono ?_; rintro e w1 ⟨rfl, rfl⟩)
  refine bodyPost_ret (v := .agg (rtArr ⟨0, 122, P.g, P.old, P.head, P.tail, rm, rb, rgot, P.steps⟩ (.slice A n c) (.slice C m e))) (by simp [results, Try.results36, go_sem, rtArr]) rfl ?_
  exact ro_write HB.out HQ.out (((Below.refl _ (w.setCell ⟨g, 1, none⟩ (.int .i64 y))).alloc (by simp) _).alloc (by simp) _) ⟨fun _ => rfl, rfl, rfl, rfl, rfl, ⟨l1, l2, l3, l4⟩, HR10.out, ⟨HR7.out, HR7b.out⟩, at_none rfl rfl⟩ HBU.out HGO.out
end
end Go.Proofs.Ythnhjhlpimgkiaa

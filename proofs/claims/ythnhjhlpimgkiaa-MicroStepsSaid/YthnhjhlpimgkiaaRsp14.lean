/-
  The reference's accesses that take the next cell (printed by wip/genrsp.py).
-/
import Derived.Test.YthnhjhlpimgkiaaRlo14
namespace Go.Proofs.Ythnhjhlpimgkiaa
open Go.RowKit
theorem sp_facts {w w3 w5 : World} {b base n c : Nat} {T : TypeId} {X0 X z : Array Value} {A : Option Addr} {l : List Value} (hx : Blk w3 b T X0) (hz : Blk w3 (b + 1) T z) (hs : b + 2 ≤ w3.heap.size) (hb : Below b w w3) (ho : Own w3 base 2 1 A n c l) (hbb : b < base) (h5 : w5 = (w3.alloc (.cells X T)).setRow b X) :
    Blk w5 b T X ∧ Blk w5 (b + 1) T z ∧ Below b w w5 ∧ Own w5 base 2 1 A n c l := by
  subst h5
  exact ⟨(hx.alloc _).setRow _, (hz.alloc _).farRow (by omega) _, below_setRow (hb.alloc (by omega) _) (Nat.le_refl _) (by rw [World.size_alloc]; omega) _, own_setRow (ho.alloc _) hbb _⟩
theorem ro_take {w w' : World} {g b base n c : Nat} {q : Nat → Prop} {xs l : List Int} {A : Option Addr} {P' : Pt} {R' : Rt} {G' : Value} (hb : Blk w g 2 (ints xs).toArray) (hq : ¬ q g) (hbw : b = w.heap.size) (h2 : Below b w w') (hO : Own w' base 2 1 A n c (ints l)) (hbase : b ≤ base) (hrel : Rel P' R') (hl : R'.buf = l) (hG : RowQ w q G' R'.got) :
    RO w g q xs P' (.returned (.agg (rtArr R' (.slice A n c) G'))) w' := by
  subst hbw
  have hm : Mv [g] w w' := Mv.of_below h2 (Nat.le_refl _)
  exact ro_gen (hb.below h2 hb.lt) hm hrel (by rw [hl]; exact own_rowQ hO hbase) (hG.mv hm (not_q hq))
section
variable {w : World} {g N size : Nat} {q : Nat → Prop} {xs : List Int} {P : Pt} {R : Rt} {A C : Option Addr} {n c m e : Nat}
theorem r_spill (hb : Blk w g 2 (ints xs).toArray) (hN : xs.length = N) (hL : size + 3 ≤ xs.length) (hs : size = 2 ∨ size = 4 ∨ size = 8) (hx : XOk xs) (hq : ¬ q g) (hr : Rel P R) (hd : P.d = some .spill) (hB : RowQ w q (.slice A n c) R.buf) (hG : RowQ w q (.slice C m e) R.got) (hle : P.bs.length + 1 ≤ P.steps) :
    Calls Try.prog 36 #[.slice (some ⟨g, 0, none⟩) N N, .int .i64 size, .agg (rtArr R (.slice A n c) (.slice C m e))] w fun e' w' => RO w g q (acc size xs P .spill).1 (acc size xs P .spill).2 e' w' := by
  obtain ⟨r1, r2, r3, r4, r5, ⟨l1, l2, l3, l4⟩, r6, ⟨r7, r7b⟩, r8⟩ := hr
  have r1 := r1 (by rw [hd]; exact Option.some_ne_none _)
  unfold AtIs at r8
  rw [hd] at r8
  obtain ⟨r8, r9, r10, r11, r12⟩ := r8
  obtain ⟨kd, pl, rg, ro, rh, rt, rm, rb, rgot, rs⟩ := R
  simp only [Ac.kd, Ac.pl] at r1 r2 r3 r4 r5 r6 r7 r8 r9 r10
  subst r1 r2 r3 r4 r5 r8 r9
  have x0l := hx.1
  have x0u := hx.2.1
  have x1l := hx.2.2.1
  have x1u := hx.2.2.2
  have HXK := Lib.hid hx
  have hg := hb.lt
  obtain ⟨x0, HX0⟩ : ∃ x, Hid (x = xs.getD 0 0) := ⟨_, Lib.hid rfl⟩
  obtain ⟨x1, HX1⟩ : ∃ x, Hid (x = xs.getD 1 0) := ⟨_, Lib.hid rfl⟩
  obtain ⟨x2, HX2⟩ : ∃ x, Hid (x = xs.getD 2 0) := ⟨_, Lib.hid rfl⟩
  have c0 : w.cell? ⟨g, 0, none⟩ = some (.int .i64 x0) := by rw [HX0.out, getD_at xs 0 (by omega)]; exact blk_at hb 0 _
  have c1 : w.cell? ⟨g, 1, none⟩ = some (.int .i64 x1) := by rw [HX1.out, getD_at xs 1 (by omega)]; exact blk_at hb 1 _
  have c2 : w.cell? ⟨g, 2, none⟩ = some (.int .i64 x2) := by rw [HX2.out, getD_at xs 2 (by omega)]; exact blk_at hb 2 _
  rw [← HX0.out] at x0l x0u
  rw [← HX1.out] at x1l x1u
  have u0 : (u x0 : Int) = x0 := by unfold u; omega
  have u1 : (u x1 : Int) = x1 := by unfold u; omega
  have hN3 : 3 < N := by omega
  have HB := Lib.hid hb
  have HN := Lib.hid hN
  have HL := Lib.hid hL
  have HS := Lib.hid hs
  have HBU := Lib.hid hB
  have HGO := Lib.hid hG
  have HQ := Lib.hid hq
  have HR6 := Lib.hid r6
  have HR7 := Lib.hid r7
  have HR7b := Lib.hid r7b
  have HR10 := Lib.hid r10
  have HR11 := Lib.hid r11
  have HR12 := Lib.hid r12
  clear hb hN hL hs hx hB hG hq r6 r7 r7b r10 r11 r12 hd
  obtain ⟨t1, t2⟩ := HR12.out rfl
  subst t1 t2
  obtain ⟨hrow, hln⟩ := HBU.out.row
  have hln : P.bs.length = n := hln
  obtain ⟨k, HK⟩ : ∃ k, Hid (k = 3 + u ((P.head : Int) + P.bs.length) % size) := ⟨_, Lib.hid rfl⟩
  have hks : k < size + 3 := by rw [HK.out]; have := Nat.mod_lt (u ((P.head : Int) + P.bs.length)) (show 0 < size by have := HS.out; omega); omega
  have hkN : k < N := by have := HL.out; have := HN.out; omega
  obtain ⟨x, HX⟩ : ∃ x, Hid (x = xs.getD k 0) := ⟨_, Lib.hid rfl⟩
  have HLE := Lib.hid (show (P.bs ++ [x]).length ≤ P.steps by simp; exact hle)
  have hnx : nextCell size xs P = x := by rw [HX.out, HK.out]; rfl
  obtain ⟨b, HBN⟩ : ∃ b, Hid (b = w.heap.size) := ⟨_, Lib.hid rfl⟩
  obtain ⟨W, HW⟩ : ∃ W, Hid (W = (w.alloc (.cells #[.int .i64 0, .int .u8 103, .int .i64 P.g, .int .i64 P.old, .int .i64 P.head, .int .i64 P.tail, .int .i64 P.many, .slice A n c, .slice C m e, .int .i64 P.steps] 44)).alloc (.cells #[.int .i64 0, .int .u8 0, .int .i64 0, .int .i64 0, .int .i64 0, .int .i64 0, .int .i64 0, .slice none 0 0, .slice none 0 0, .int .i64 0] 44)) := ⟨_, Lib.hid rfl⟩
  have hbx : Blk W b 44 #[.int .i64 0, .int .u8 103, .int .i64 P.g, .int .i64 P.old, .int .i64 P.head, .int .i64 P.tail, .int .i64 P.many, .slice A n c, .slice C m e, .int .i64 P.steps] := by rw [HW.out, HBN.out]; exact (Blk.new _ _ _).alloc _
  have hwl : Blk W g 2 (ints xs).toArray := by rw [HW.out]; exact (HB.out.alloc _).alloc _
  have hbel : Below b w W := by rw [HW.out, HBN.out]; exact ((Below.refl _ w).alloc (Nat.le_refl _) _).alloc (by simp) _
  have hsz : W.heap.size = b + 2 := by rw [HW.out, World.size_alloc, World.size_alloc, HBN.out]
  have hbz : Blk W (b + 1) 44 z44 := by
    have := Blk.new (w.alloc (.cells #[.int .i64 0, .int .u8 103, .int .i64 P.g, .int .i64 P.old, .int .i64 P.head, .int .i64 P.tail, .int .i64 P.many, .slice A n c, .slice C m e, .int .i64 P.steps] 44)) 44 z44
    rw [World.size_alloc, ← HBN.out] at this
    rw [HW.out]
    exact this
  have hrq : RowQ W (Qn q w) (.slice A n c) P.bs := HBU.out.mv (Mv.of_below (show Below w.heap.size w W by rw [← HBN.out]; exact hbel) (Nat.le_refl _) : Mv [g] w W) (not_q HQ.out)
  have HLO := Lib.hid (rload_any (kd := 0) (pl := 103) (rg := P.g) (ro := P.old) (rt := P.tail) (rm := P.many) (rs := P.steps) (hd := P.head) hwl HN.out HS.out hrq (by have := HR7b.out; have := hln; omega) l1 HK.out hkN HX.out C m e rfl)
  have HBEL := Lib.hid hbel
  have HSZ := Lib.hid hsz
  have HBX := Lib.hid hbx
  have HBZ := Lib.hid hbz
  have HWL := Lib.hid hwl
  have HLNN := Lib.hid hln
  have hq1 : ((n : Int) + 1 == (P.many : Int)) = decide (P.bs.length + 1 = P.many) := by
    rw [hln]
    by_cases h : n + 1 = P.many
    · simp [h]; omega
    · simp [h]; omega
  rw [hq1] at HLO
  clear hbel hsz hbx hbz hwl hrow hrq hq1
  by_cases hz : P.bs.length + 1 = P.many
  · have hdz : decide (P.bs.length + 1 = P.many) = true := by simpa using hz
    rw [hdz] at HLO
    have he : acc size xs P .spill = (xs, { P with bs := P.bs ++ [x], d := some .spillDone }) := by
      simp only [acc, if_pos hz, hnx]
    rw [he]
    clear he hz hdz hln hnx
    simp only [rtArr]
    go_enter Try.func36, Try.ntmps36
    go_wp2_with fail
    rw [show (w.alloc (.cells #[.int .i64 0, .int .u8 103, .int .i64 P.g, .int .i64 P.old, .int .i64 P.head, .int .i64 P.tail, .int .i64 P.many, .slice A n c, .slice C m e, .int .i64 P.steps] 44)).alloc (.cells #[.int .i64 0, .int .u8 0, .int .i64 0, .int .i64 0, .int .i64 0, .int .i64 0, .int .i64 0, .slice none 0 0, .slice none 0 0, .int .i64 0] 44) = W from HW.out.symm, ← HBN.out]
    refine HLO.out.mono ?_
    rintro e' w3 ⟨A', c', rfl, hO3, hb3⟩
    have HX3 := Lib.hid (HBX.out.below hb3 HBX.out.lt)
    have HZ3 := Lib.hid (HBZ.out.below hb3 HBZ.out.lt)
    have HS3 := Lib.hid (show b + 2 ≤ w3.heap.size by have := hb3.size; have := HSZ.out; omega)
    have HO3 := Lib.hid hO3
    have HB3 := Lib.hid hb3
    clear hO3 hb3
    go_wp2_with (first | (refine wpList_store_row ?hgd_1 44 (.tmp 5) (.tmp 94) ?ho_1 b (rtArr ⟨0, 103, P.g, P.old, P.head, P.tail, P.many, [], [], P.steps⟩ (.slice A' (n + 1) c') (.slice C m e)) ?hx_1 ?hy_1 44 #[.int .i64 0, .int .u8 103, .int .i64 P.g, .int .i64 P.old, .int .i64 P.head, .int .i64 P.tail, .int .i64 P.many, .slice A n c, .slice C m e, .int .i64 P.steps] ?hg_1 ?hi_1 ?hold_1 ?h1_1 ?h_1; (case ho_1 => rfl); (case hgd_1 => rfl); (case hx_1 => rfl); (case hy_1 => rfl); (case hi_1 => exact Try.infoRt); (case hg_1 => exact HX3.out.alloc _); (case hold_1 => rfl); (case h1_1 => exact rtArr_one _ _ _ _ _ _ _); obtain ⟨w5, HW5⟩ : ∃ w5, Hid (w5 = (w3.alloc (.cells (rtArr ⟨0, 103, P.g, P.old, P.head, P.tail, P.many, [], [], P.steps⟩ (.slice A' (n + 1) c') (.slice C m e)) 44)).setRow b (rtArr ⟨0, 103, P.g, P.old, P.head, P.tail, P.many, [], [], P.steps⟩ (.slice A' (n + 1) c') (.slice C m e))) := ⟨_, Lib.hid rfl⟩; obtain ⟨hx5, hz5, hb5, ho5⟩ := sp_facts HX3.out HZ3.out HS3.out (HBEL.out.trans (HB3.out.mono (by have := HSZ.out; omega))) HO3.out (by have := HSZ.out; omega) HW5.out; rw [show ((w3.alloc (.cells #[.int .i64 0, .int .u8 103, .int .i64 P.g, .int .i64 P.old, .int .i64 P.head, .int .i64 P.tail, .int .i64 P.many, .slice A' (n + 1) c', .slice C m e, .int .i64 P.steps] 44)).setRow b (rtArr ⟨0, 103, P.g, P.old, P.head, P.tail, P.many, [], [], P.steps⟩ (.slice A' (n + 1) c') (.slice C m e))) = w5 from HW5.out.symm]; have HX5 := Lib.hid hx5; have HZ5 := Lib.hid hz5; have HB5 := Lib.hid hb5; have HO5 := Lib.hid ho5; have k1 : w5.cell? ⟨b, 1, none⟩ = some (.int .u8 103) := (hx5.cell 1).trans rfl; have f1 := hx5.frozen 1; clear hx5 hz5 hb5 ho5) | (refine wpList_load_row rfl 44 _ rfl b rfl 44 #[.int .i64 0, .int .u8 104, .int .i64 P.g, .int .i64 P.old, .int .i64 P.head, .int .i64 P.tail, .int .i64 P.many, .slice A' (n + 1) c', .slice C m e, .int .i64 P.steps] (0, 0) _ (show Blk (w5.setCell ⟨b, 1, none⟩ (.int .u8 104)) b 44 #[.int .i64 0, .int .u8 104, .int .i64 P.g, .int .i64 P.old, .int .i64 P.head, .int .i64 P.tail, .int .i64 P.many, .slice A' (n + 1) c', .slice C m e, .int .i64 P.steps] from HX5.out.set_ 1 _) Try.underlying44 rfl Try.infoRt ?_) | (refine wpList_store_row ?hgd_2 44 (.tmp 6) (.tmp 120) ?ho_2 (b + 1) (rtArr ⟨0, 104, P.g, P.old, P.head, P.tail, P.many, [], [], P.steps⟩ (.slice A' (n + 1) c') (.slice C m e)) ?hx_2 ?hy_2 44 z44 ?hg_2 ?hi_2 ?hold_2 ?h1_2 ?h_2; (case ho_2 => rfl); (case hgd_2 => rfl); (case hx_2 => rfl); (case hy_2 => rfl); (case hi_2 => exact Try.infoRt); (case hg_2 => exact (show Blk (w5.setCell ⟨b, 1, none⟩ (.int .u8 104)) (b + 1) 44 z44 from HZ5.out.far (by simp) _)); (case hold_2 => rfl); (case h1_2 => exact rtArr_one _ _ _ _ _ _ _)))
    refine bodyPost_ret (results_cell_row Try.results36 _ _ (b + 1) 44 #[.int .i64 0, .int .u8 104, .int .i64 P.g, .int .i64 P.old, .int .i64 P.head, .int .i64 P.tail, .int .i64 P.many, .slice A' (n + 1) c', .slice C m e, .int .i64 P.steps] (0, 0) _ rfl ((HZ5.out.far (by simp) _).setRow _) Try.underlying44 rfl Try.infoRt) rfl ?_
    exact ro_take (R' := ⟨0, 104, P.g, P.old, P.head, P.tail, P.many, P.bs ++ [x], rgot, P.steps⟩) HB.out HQ.out HBN.out (below_setRow (HB5.out.setCell (by simp) _) (by omega) (by have := HX5.out.lt; simp; omega) _) (own_setRow (HO5.out.setCell _ _ (HO5.out.ne_lt (by have := HSZ.out; simp; omega))) (by have := HSZ.out; omega) _) (by have := HSZ.out; omega) ⟨fun _ => rfl, rfl, rfl, rfl, rfl, ⟨l1, l2, l3, l4⟩, HR6.out, ⟨HLE.out, HLE.out⟩, at_some .spillDone rfl rfl rfl HR10.out HR11.out (fun _ => ⟨rfl, rfl⟩)⟩ rfl HGO.out
  · have hdz : decide (P.bs.length + 1 = P.many) = false := by simpa using hz
    rw [hdz] at HLO
    have he : acc size xs P .spill = (xs, { P with bs := P.bs ++ [x], d := some .spill }) := by
      simp only [acc, if_neg hz, hnx]
    rw [he]
    clear he hz hdz hln hnx
    simp only [rtArr]
    go_enter Try.func36, Try.ntmps36
    go_wp2_with fail
    rw [show (w.alloc (.cells #[.int .i64 0, .int .u8 103, .int .i64 P.g, .int .i64 P.old, .int .i64 P.head, .int .i64 P.tail, .int .i64 P.many, .slice A n c, .slice C m e, .int .i64 P.steps] 44)).alloc (.cells #[.int .i64 0, .int .u8 0, .int .i64 0, .int .i64 0, .int .i64 0, .int .i64 0, .int .i64 0, .slice none 0 0, .slice none 0 0, .int .i64 0] 44) = W from HW.out.symm, ← HBN.out]
    refine HLO.out.mono ?_
    rintro e' w3 ⟨A', c', rfl, hO3, hb3⟩
    have HX3 := Lib.hid (HBX.out.below hb3 HBX.out.lt)
    have HZ3 := Lib.hid (HBZ.out.below hb3 HBZ.out.lt)
    have HS3 := Lib.hid (show b + 2 ≤ w3.heap.size by have := hb3.size; have := HSZ.out; omega)
    have HO3 := Lib.hid hO3
    have HB3 := Lib.hid hb3
    clear hO3 hb3
    go_wp2_with (first | (refine wpList_store_row ?hgd_1b 44 (.tmp 5) (.tmp 94) ?ho_1b b (rtArr ⟨0, 103, P.g, P.old, P.head, P.tail, P.many, [], [], P.steps⟩ (.slice A' (n + 1) c') (.slice C m e)) ?hx_1b ?hy_1b 44 #[.int .i64 0, .int .u8 103, .int .i64 P.g, .int .i64 P.old, .int .i64 P.head, .int .i64 P.tail, .int .i64 P.many, .slice A n c, .slice C m e, .int .i64 P.steps] ?hg_1b ?hi_1b ?hold_1b ?h1_1b ?h_1b; (case ho_1b => rfl); (case hgd_1b => rfl); (case hx_1b => rfl); (case hy_1b => rfl); (case hi_1b => exact Try.infoRt); (case hg_1b => exact HX3.out.alloc _); (case hold_1b => rfl); (case h1_1b => exact rtArr_one _ _ _ _ _ _ _); obtain ⟨w5, HW5⟩ : ∃ w5, Hid (w5 = (w3.alloc (.cells (rtArr ⟨0, 103, P.g, P.old, P.head, P.tail, P.many, [], [], P.steps⟩ (.slice A' (n + 1) c') (.slice C m e)) 44)).setRow b (rtArr ⟨0, 103, P.g, P.old, P.head, P.tail, P.many, [], [], P.steps⟩ (.slice A' (n + 1) c') (.slice C m e))) := ⟨_, Lib.hid rfl⟩; obtain ⟨hx5, hz5, hb5, ho5⟩ := sp_facts HX3.out HZ3.out HS3.out (HBEL.out.trans (HB3.out.mono (by have := HSZ.out; omega))) HO3.out (by have := HSZ.out; omega) HW5.out; rw [show ((w3.alloc (.cells #[.int .i64 0, .int .u8 103, .int .i64 P.g, .int .i64 P.old, .int .i64 P.head, .int .i64 P.tail, .int .i64 P.many, .slice A' (n + 1) c', .slice C m e, .int .i64 P.steps] 44)).setRow b (rtArr ⟨0, 103, P.g, P.old, P.head, P.tail, P.many, [], [], P.steps⟩ (.slice A' (n + 1) c') (.slice C m e))) = w5 from HW5.out.symm]; have HX5 := Lib.hid hx5; have HZ5 := Lib.hid hz5; have HB5 := Lib.hid hb5; have HO5 := Lib.hid ho5; have k1 : w5.cell? ⟨b, 1, none⟩ = some (.int .u8 103) := (hx5.cell 1).trans rfl; have f1 := hx5.frozen 1; clear hx5 hz5 hb5 ho5) | (refine wpList_load_row rfl 44 _ rfl b rfl 44 #[.int .i64 0, .int .u8 103, .int .i64 P.g, .int .i64 P.old, .int .i64 P.head, .int .i64 P.tail, .int .i64 P.many, .slice A' (n + 1) c', .slice C m e, .int .i64 P.steps] (0, 0) _ HX5.out Try.underlying44 rfl Try.infoRt ?_) | (refine wpList_store_row ?hgd_3b 44 (.tmp 6) (.tmp 120) ?ho_3b (b + 1) (rtArr ⟨0, 103, P.g, P.old, P.head, P.tail, P.many, [], [], P.steps⟩ (.slice A' (n + 1) c') (.slice C m e)) ?hx_3b ?hy_3b 44 z44 ?hg_3b ?hi_3b ?hold_3b ?h1_3b ?h_3b; (case ho_3b => rfl); (case hgd_3b => rfl); (case hx_3b => rfl); (case hy_3b => rfl); (case hi_3b => exact Try.infoRt); (case hg_3b => exact HZ5.out); (case hold_3b => rfl); (case h1_3b => exact rtArr_one _ _ _ _ _ _ _)))
    refine bodyPost_ret (results_cell_row Try.results36 _ _ (b + 1) 44 #[.int .i64 0, .int .u8 103, .int .i64 P.g, .int .i64 P.old, .int .i64 P.head, .int .i64 P.tail, .int .i64 P.many, .slice A' (n + 1) c', .slice C m e, .int .i64 P.steps] (0, 0) _ rfl (HZ5.out.setRow _) Try.underlying44 rfl Try.infoRt) rfl ?_
    exact ro_take (R' := ⟨0, 103, P.g, P.old, P.head, P.tail, P.many, P.bs ++ [x], rgot, P.steps⟩) HB.out HQ.out HBN.out (below_setRow HB5.out (by omega) (by have := HX5.out.lt; simp; omega) _) (own_setRow HO5.out (by have := HSZ.out; omega) _) (by have := HSZ.out; omega) ⟨fun _ => rfl, rfl, rfl, rfl, rfl, ⟨l1, l2, l3, l4⟩, HR6.out, ⟨HLE.out, HLE.out⟩, at_some .spill rfl rfl rfl HR10.out HR11.out (fun _ => ⟨rfl, rfl⟩)⟩ rfl HGO.out
theorem r_grabCells (hb : Blk w g 2 (ints xs).toArray) (hN : xs.length = N) (hL : size + 3 ≤ xs.length) (hs : size = 2 ∨ size = 4 ∨ size = 8) (hx : XOk xs) (hq : ¬ q g) (hr : Rel P R) (hd : P.d = some .grabCells) (hB : RowQ w q (.slice A n c) R.buf) (hG : RowQ w q (.slice C m e) R.got) (hle : P.bs.length + 1 ≤ P.steps) :
    Calls Try.prog 38 #[.slice (some ⟨g, 0, none⟩) N N, .int .i64 size, .agg (rtArr R (.slice A n c) (.slice C m e))] w fun e' w' => RO w g q (acc size xs P .grabCells).1 (acc size xs P .grabCells).2 e' w' := by
  obtain ⟨r1, r2, r3, r4, r5, ⟨l1, l2, l3, l4⟩, r6, ⟨r7, r7b⟩, r8⟩ := hr
  have r1 := r1 (by rw [hd]; exact Option.some_ne_none _)
  unfold AtIs at r8
  rw [hd] at r8
  obtain ⟨r8, r9, r10, r11, r12⟩ := r8
  obtain ⟨kd, pl, rg, ro, rh, rt, rm, rb, rgot, rs⟩ := R
  simp only [Ac.kd, Ac.pl] at r1 r2 r3 r4 r5 r6 r7 r8 r9 r10
  subst r1 r2 r3 r4 r5 r8 r9
  have x0l := hx.1
  have x0u := hx.2.1
  have x1l := hx.2.2.1
  have x1u := hx.2.2.2
  have HXK := Lib.hid hx
  have hg := hb.lt
  obtain ⟨x0, HX0⟩ : ∃ x, Hid (x = xs.getD 0 0) := ⟨_, Lib.hid rfl⟩
  obtain ⟨x1, HX1⟩ : ∃ x, Hid (x = xs.getD 1 0) := ⟨_, Lib.hid rfl⟩
  obtain ⟨x2, HX2⟩ : ∃ x, Hid (x = xs.getD 2 0) := ⟨_, Lib.hid rfl⟩
  have c0 : w.cell? ⟨g, 0, none⟩ = some (.int .i64 x0) := by rw [HX0.out, getD_at xs 0 (by omega)]; exact blk_at hb 0 _
  have c1 : w.cell? ⟨g, 1, none⟩ = some (.int .i64 x1) := by rw [HX1.out, getD_at xs 1 (by omega)]; exact blk_at hb 1 _
  have c2 : w.cell? ⟨g, 2, none⟩ = some (.int .i64 x2) := by rw [HX2.out, getD_at xs 2 (by omega)]; exact blk_at hb 2 _
  rw [← HX0.out] at x0l x0u
  rw [← HX1.out] at x1l x1u
  have u0 : (u x0 : Int) = x0 := by unfold u; omega
  have u1 : (u x1 : Int) = x1 := by unfold u; omega
  have hN3 : 3 < N := by omega
  have HB := Lib.hid hb
  have HN := Lib.hid hN
  have HL := Lib.hid hL
  have HS := Lib.hid hs
  have HBU := Lib.hid hB
  have HGO := Lib.hid hG
  have HQ := Lib.hid hq
  have HR6 := Lib.hid r6
  have HR7 := Lib.hid r7
  have HR7b := Lib.hid r7b
  have HR10 := Lib.hid r10
  have HR11 := Lib.hid r11
  have HR12 := Lib.hid r12
  clear hb hN hL hs hx hB hG hq r6 r7 r7b r10 r11 r12 hd
  obtain ⟨t1, t2⟩ := HR12.out rfl
  subst t1 t2
  obtain ⟨hrow, hln⟩ := HBU.out.row
  have hln : P.bs.length = n := hln
  obtain ⟨k, HK⟩ : ∃ k, Hid (k = 3 + u ((P.head : Int) + P.bs.length) % size) := ⟨_, Lib.hid rfl⟩
  have hks : k < size + 3 := by rw [HK.out]; have := Nat.mod_lt (u ((P.head : Int) + P.bs.length)) (show 0 < size by have := HS.out; omega); omega
  have hkN : k < N := by have := HL.out; have := HN.out; omega
  obtain ⟨x, HX⟩ : ∃ x, Hid (x = xs.getD k 0) := ⟨_, Lib.hid rfl⟩
  have HLE := Lib.hid (show (P.bs ++ [x]).length ≤ P.steps by simp; exact hle)
  have hnx : nextCell size xs P = x := by rw [HX.out, HK.out]; rfl
  obtain ⟨b, HBN⟩ : ∃ b, Hid (b = w.heap.size) := ⟨_, Lib.hid rfl⟩
  obtain ⟨W, HW⟩ : ∃ W, Hid (W = (w.alloc (.cells #[.int .i64 2, .int .u8 101, .int .i64 P.g, .int .i64 P.old, .int .i64 P.head, .int .i64 P.tail, .int .i64 P.many, .slice A n c, .slice C m e, .int .i64 P.steps] 44)).alloc (.cells #[.int .i64 0, .int .u8 0, .int .i64 0, .int .i64 0, .int .i64 0, .int .i64 0, .int .i64 0, .slice none 0 0, .slice none 0 0, .int .i64 0] 44)) := ⟨_, Lib.hid rfl⟩
  have hbx : Blk W b 44 #[.int .i64 2, .int .u8 101, .int .i64 P.g, .int .i64 P.old, .int .i64 P.head, .int .i64 P.tail, .int .i64 P.many, .slice A n c, .slice C m e, .int .i64 P.steps] := by rw [HW.out, HBN.out]; exact (Blk.new _ _ _).alloc _
  have hwl : Blk W g 2 (ints xs).toArray := by rw [HW.out]; exact (HB.out.alloc _).alloc _
  have hbel : Below b w W := by rw [HW.out, HBN.out]; exact ((Below.refl _ w).alloc (Nat.le_refl _) _).alloc (by simp) _
  have hsz : W.heap.size = b + 2 := by rw [HW.out, World.size_alloc, World.size_alloc, HBN.out]
  have hbz : Blk W (b + 1) 44 z44 := by
    have := Blk.new (w.alloc (.cells #[.int .i64 2, .int .u8 101, .int .i64 P.g, .int .i64 P.old, .int .i64 P.head, .int .i64 P.tail, .int .i64 P.many, .slice A n c, .slice C m e, .int .i64 P.steps] 44)) 44 z44
    rw [World.size_alloc, ← HBN.out] at this
    rw [HW.out]
    exact this
  have hrq : RowQ W (Qn q w) (.slice A n c) P.bs := HBU.out.mv (Mv.of_below (show Below w.heap.size w W by rw [← HBN.out]; exact hbel) (Nat.le_refl _) : Mv [g] w W) (not_q HQ.out)
  have HLO := Lib.hid (rload_any (kd := 2) (pl := 101) (rg := P.g) (ro := P.old) (rt := P.tail) (rm := P.many) (rs := P.steps) (hd := P.head) hwl HN.out HS.out hrq (by have := HR7b.out; have := hln; omega) l1 HK.out hkN HX.out C m e rfl)
  have HBEL := Lib.hid hbel
  have HSZ := Lib.hid hsz
  have HBX := Lib.hid hbx
  have HBZ := Lib.hid hbz
  have HWL := Lib.hid hwl
  have HLNN := Lib.hid hln
  have hq1 : ((n : Int) + 1 == (P.many : Int)) = decide (P.bs.length + 1 = P.many) := by
    rw [hln]
    by_cases h : n + 1 = P.many
    · simp [h]; omega
    · simp [h]; omega
  rw [hq1] at HLO
  clear hbel hsz hbx hbz hwl hrow hrq hq1
  by_cases hz : P.bs.length + 1 = P.many
  · have hdz : decide (P.bs.length + 1 = P.many) = true := by simpa using hz
    rw [hdz] at HLO
    have he : acc size xs P .grabCells = (xs, { P with bs := P.bs ++ [x], d := some .grabDone }) := by
      simp only [acc, if_pos hz, hnx]
    rw [he]
    clear he hz hdz hln hnx
    simp only [rtArr]
    go_enter Try.func38, Try.ntmps38
    go_wp2_with fail
    rw [show (w.alloc (.cells #[.int .i64 2, .int .u8 101, .int .i64 P.g, .int .i64 P.old, .int .i64 P.head, .int .i64 P.tail, .int .i64 P.many, .slice A n c, .slice C m e, .int .i64 P.steps] 44)).alloc (.cells #[.int .i64 0, .int .u8 0, .int .i64 0, .int .i64 0, .int .i64 0, .int .i64 0, .int .i64 0, .slice none 0 0, .slice none 0 0, .int .i64 0] 44) = W from HW.out.symm, ← HBN.out]
    refine HLO.out.mono ?_
    rintro e' w3 ⟨A', c', rfl, hO3, hb3⟩
    have HX3 := Lib.hid (HBX.out.below hb3 HBX.out.lt)
    have HZ3 := Lib.hid (HBZ.out.below hb3 HBZ.out.lt)
    have HS3 := Lib.hid (show b + 2 ≤ w3.heap.size by have := hb3.size; have := HSZ.out; omega)
    have HO3 := Lib.hid hO3
    have HB3 := Lib.hid hb3
    clear hO3 hb3
    go_wp2_with (first | (refine wpList_store_row ?hgd_1 44 (.tmp 5) (.tmp 80) ?ho_1 b (rtArr ⟨2, 101, P.g, P.old, P.head, P.tail, P.many, [], [], P.steps⟩ (.slice A' (n + 1) c') (.slice C m e)) ?hx_1 ?hy_1 44 #[.int .i64 2, .int .u8 101, .int .i64 P.g, .int .i64 P.old, .int .i64 P.head, .int .i64 P.tail, .int .i64 P.many, .slice A n c, .slice C m e, .int .i64 P.steps] ?hg_1 ?hi_1 ?hold_1 ?h1_1 ?h_1; (case ho_1 => rfl); (case hgd_1 => rfl); (case hx_1 => rfl); (case hy_1 => rfl); (case hi_1 => exact Try.infoRt); (case hg_1 => exact HX3.out.alloc _); (case hold_1 => rfl); (case h1_1 => exact rtArr_one _ _ _ _ _ _ _); obtain ⟨w5, HW5⟩ : ∃ w5, Hid (w5 = (w3.alloc (.cells (rtArr ⟨2, 101, P.g, P.old, P.head, P.tail, P.many, [], [], P.steps⟩ (.slice A' (n + 1) c') (.slice C m e)) 44)).setRow b (rtArr ⟨2, 101, P.g, P.old, P.head, P.tail, P.many, [], [], P.steps⟩ (.slice A' (n + 1) c') (.slice C m e))) := ⟨_, Lib.hid rfl⟩; obtain ⟨hx5, hz5, hb5, ho5⟩ := sp_facts HX3.out HZ3.out HS3.out (HBEL.out.trans (HB3.out.mono (by have := HSZ.out; omega))) HO3.out (by have := HSZ.out; omega) HW5.out; rw [show ((w3.alloc (.cells #[.int .i64 2, .int .u8 101, .int .i64 P.g, .int .i64 P.old, .int .i64 P.head, .int .i64 P.tail, .int .i64 P.many, .slice A' (n + 1) c', .slice C m e, .int .i64 P.steps] 44)).setRow b (rtArr ⟨2, 101, P.g, P.old, P.head, P.tail, P.many, [], [], P.steps⟩ (.slice A' (n + 1) c') (.slice C m e))) = w5 from HW5.out.symm]; have HX5 := Lib.hid hx5; have HZ5 := Lib.hid hz5; have HB5 := Lib.hid hb5; have HO5 := Lib.hid ho5; have k1 : w5.cell? ⟨b, 1, none⟩ = some (.int .u8 101) := (hx5.cell 1).trans rfl; have f1 := hx5.frozen 1; clear hx5 hz5 hb5 ho5) | (refine wpList_load_row rfl 44 _ rfl b rfl 44 #[.int .i64 2, .int .u8 102, .int .i64 P.g, .int .i64 P.old, .int .i64 P.head, .int .i64 P.tail, .int .i64 P.many, .slice A' (n + 1) c', .slice C m e, .int .i64 P.steps] (0, 0) _ (show Blk (w5.setCell ⟨b, 1, none⟩ (.int .u8 102)) b 44 #[.int .i64 2, .int .u8 102, .int .i64 P.g, .int .i64 P.old, .int .i64 P.head, .int .i64 P.tail, .int .i64 P.many, .slice A' (n + 1) c', .slice C m e, .int .i64 P.steps] from HX5.out.set_ 1 _) Try.underlying44 rfl Try.infoRt ?_) | (refine wpList_store_row ?hgd_2 44 (.tmp 6) (.tmp 100) ?ho_2 (b + 1) (rtArr ⟨2, 102, P.g, P.old, P.head, P.tail, P.many, [], [], P.steps⟩ (.slice A' (n + 1) c') (.slice C m e)) ?hx_2 ?hy_2 44 z44 ?hg_2 ?hi_2 ?hold_2 ?h1_2 ?h_2; (case ho_2 => rfl); (case hgd_2 => rfl); (case hx_2 => rfl); (case hy_2 => rfl); (case hi_2 => exact Try.infoRt); (case hg_2 => exact (show Blk (w5.setCell ⟨b, 1, none⟩ (.int .u8 102)) (b + 1) 44 z44 from HZ5.out.far (by simp) _)); (case hold_2 => rfl); (case h1_2 => exact rtArr_one _ _ _ _ _ _ _)))
    refine bodyPost_ret (results_cell_row Try.results38 _ _ (b + 1) 44 #[.int .i64 2, .int .u8 102, .int .i64 P.g, .int .i64 P.old, .int .i64 P.head, .int .i64 P.tail, .int .i64 P.many, .slice A' (n + 1) c', .slice C m e, .int .i64 P.steps] (0, 0) _ rfl ((HZ5.out.far (by simp) _).setRow _) Try.underlying44 rfl Try.infoRt) rfl ?_
    exact ro_take (R' := ⟨2, 102, P.g, P.old, P.head, P.tail, P.many, P.bs ++ [x], rgot, P.steps⟩) HB.out HQ.out HBN.out (below_setRow (HB5.out.setCell (by simp) _) (by omega) (by have := HX5.out.lt; simp; omega) _) (own_setRow (HO5.out.setCell _ _ (HO5.out.ne_lt (by have := HSZ.out; simp; omega))) (by have := HSZ.out; omega) _) (by have := HSZ.out; omega) ⟨fun _ => rfl, rfl, rfl, rfl, rfl, ⟨l1, l2, l3, l4⟩, HR6.out, ⟨HLE.out, HLE.out⟩, at_some .grabDone rfl rfl rfl HR10.out HR11.out (fun _ => ⟨rfl, rfl⟩)⟩ rfl HGO.out
  · have hdz : decide (P.bs.length + 1 = P.many) = false := by simpa using hz
    rw [hdz] at HLO
    have he : acc size xs P .grabCells = (xs, { P with bs := P.bs ++ [x], d := some .grabCells }) := by
      simp only [acc, if_neg hz, hnx]
    rw [he]
    clear he hz hdz hln hnx
    simp only [rtArr]
    go_enter Try.func38, Try.ntmps38
    go_wp2_with fail
    rw [show (w.alloc (.cells #[.int .i64 2, .int .u8 101, .int .i64 P.g, .int .i64 P.old, .int .i64 P.head, .int .i64 P.tail, .int .i64 P.many, .slice A n c, .slice C m e, .int .i64 P.steps] 44)).alloc (.cells #[.int .i64 0, .int .u8 0, .int .i64 0, .int .i64 0, .int .i64 0, .int .i64 0, .int .i64 0, .slice none 0 0, .slice none 0 0, .int .i64 0] 44) = W from HW.out.symm, ← HBN.out]
    refine HLO.out.mono ?_
    rintro e' w3 ⟨A', c', rfl, hO3, hb3⟩
    have HX3 := Lib.hid (HBX.out.below hb3 HBX.out.lt)
    have HZ3 := Lib.hid (HBZ.out.below hb3 HBZ.out.lt)
    have HS3 := Lib.hid (show b + 2 ≤ w3.heap.size by have := hb3.size; have := HSZ.out; omega)
    have HO3 := Lib.hid hO3
    have HB3 := Lib.hid hb3
    clear hO3 hb3
    go_wp2_with (first | (refine wpList_store_row ?hgd_1b 44 (.tmp 5) (.tmp 80) ?ho_1b b (rtArr ⟨2, 101, P.g, P.old, P.head, P.tail, P.many, [], [], P.steps⟩ (.slice A' (n + 1) c') (.slice C m e)) ?hx_1b ?hy_1b 44 #[.int .i64 2, .int .u8 101, .int .i64 P.g, .int .i64 P.old, .int .i64 P.head, .int .i64 P.tail, .int .i64 P.many, .slice A n c, .slice C m e, .int .i64 P.steps] ?hg_1b ?hi_1b ?hold_1b ?h1_1b ?h_1b; (case ho_1b => rfl); (case hgd_1b => rfl); (case hx_1b => rfl); (case hy_1b => rfl); (case hi_1b => exact Try.infoRt); (case hg_1b => exact HX3.out.alloc _); (case hold_1b => rfl); (case h1_1b => exact rtArr_one _ _ _ _ _ _ _); obtain ⟨w5, HW5⟩ : ∃ w5, Hid (w5 = (w3.alloc (.cells (rtArr ⟨2, 101, P.g, P.old, P.head, P.tail, P.many, [], [], P.steps⟩ (.slice A' (n + 1) c') (.slice C m e)) 44)).setRow b (rtArr ⟨2, 101, P.g, P.old, P.head, P.tail, P.many, [], [], P.steps⟩ (.slice A' (n + 1) c') (.slice C m e))) := ⟨_, Lib.hid rfl⟩; obtain ⟨hx5, hz5, hb5, ho5⟩ := sp_facts HX3.out HZ3.out HS3.out (HBEL.out.trans (HB3.out.mono (by have := HSZ.out; omega))) HO3.out (by have := HSZ.out; omega) HW5.out; rw [show ((w3.alloc (.cells #[.int .i64 2, .int .u8 101, .int .i64 P.g, .int .i64 P.old, .int .i64 P.head, .int .i64 P.tail, .int .i64 P.many, .slice A' (n + 1) c', .slice C m e, .int .i64 P.steps] 44)).setRow b (rtArr ⟨2, 101, P.g, P.old, P.head, P.tail, P.many, [], [], P.steps⟩ (.slice A' (n + 1) c') (.slice C m e))) = w5 from HW5.out.symm]; have HX5 := Lib.hid hx5; have HZ5 := Lib.hid hz5; have HB5 := Lib.hid hb5; have HO5 := Lib.hid ho5; have k1 : w5.cell? ⟨b, 1, none⟩ = some (.int .u8 101) := (hx5.cell 1).trans rfl; have f1 := hx5.frozen 1; clear hx5 hz5 hb5 ho5) | (refine wpList_load_row rfl 44 _ rfl b rfl 44 #[.int .i64 2, .int .u8 101, .int .i64 P.g, .int .i64 P.old, .int .i64 P.head, .int .i64 P.tail, .int .i64 P.many, .slice A' (n + 1) c', .slice C m e, .int .i64 P.steps] (0, 0) _ HX5.out Try.underlying44 rfl Try.infoRt ?_) | (refine wpList_store_row ?hgd_3b 44 (.tmp 6) (.tmp 100) ?ho_3b (b + 1) (rtArr ⟨2, 101, P.g, P.old, P.head, P.tail, P.many, [], [], P.steps⟩ (.slice A' (n + 1) c') (.slice C m e)) ?hx_3b ?hy_3b 44 z44 ?hg_3b ?hi_3b ?hold_3b ?h1_3b ?h_3b; (case ho_3b => rfl); (case hgd_3b => rfl); (case hx_3b => rfl); (case hy_3b => rfl); (case hi_3b => exact Try.infoRt); (case hg_3b => exact HZ5.out); (case hold_3b => rfl); (case h1_3b => exact rtArr_one _ _ _ _ _ _ _)))
    refine bodyPost_ret (results_cell_row Try.results38 _ _ (b + 1) 44 #[.int .i64 2, .int .u8 101, .int .i64 P.g, .int .i64 P.old, .int .i64 P.head, .int .i64 P.tail, .int .i64 P.many, .slice A' (n + 1) c', .slice C m e, .int .i64 P.steps] (0, 0) _ rfl (HZ5.out.setRow _) Try.underlying44 rfl Try.infoRt) rfl ?_
    exact ro_take (R' := ⟨2, 101, P.g, P.old, P.head, P.tail, P.many, P.bs ++ [x], rgot, P.steps⟩) HB.out HQ.out HBN.out (below_setRow HB5.out (by omega) (by have := HX5.out.lt; simp; omega) _) (own_setRow HO5.out (by have := HSZ.out; omega) _) (by have := HSZ.out; omega) ⟨fun _ => rfl, rfl, rfl, rfl, rfl, ⟨l1, l2, l3, l4⟩, HR6.out, ⟨HLE.out, HLE.out⟩, at_some .grabCells rfl rfl rfl HR10.out HR11.out (fun _ => ⟨rfl, rfl⟩)⟩ rfl HGO.out
end
end Go.Proofs.Ythnhjhlpimgkiaa

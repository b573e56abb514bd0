/-
  The reference's load: the next cell into a new buffer.
-/
import Derived.Test.YthnhjhlpimgkiaaRdw14
import Derived.Test.YthnhjhlpimgkiaaApp
namespace Go.Proofs.Ythnhjhlpimgkiaa
open Go.RowKit
theorem ints_ones (l : List Int) : ∀ u ∈ ints l, u.oneCell' = true := by
  intro u hu
  obtain ⟨x, _, rfl⟩ := List.mem_map.1 hu
  rfl
theorem quiet_load_row {P : Program} {ops : Array Oper} {C : World → Prop} {Q : Act → Prop} {rest : List Oper} {o : Oper} {a : Act} (hw : Region.wanted o (yielded ops a.tmps) = true) (ty : TypeId) (x : Operand) (ho : o.op = .load ty x)
    (g : Nat) (hx : a.eval x = .pointer (some ⟨g, 0, none⟩)) (cs : Array Value) (hl : ∀ w, C w → (loadVar ty ⟨g, 0, none⟩).run P w = .ok (.agg cs) w) (h : wpQuiet P ops C Q rest (a.put o.dst (.agg cs))) : wpQuiet P ops C Q (o :: rest) a := by
  unfold wpQuiet
  rw [if_pos hw]
  refine ⟨.agg cs, fun w hC => ?_, h⟩
  unfold Oper.quietAt execOp
  simp only [ho, hx, Instr.loadAt, Instr.sureAddr, Sem.run_bind, Sem.run_pure, Result.andThen_ok, hl w hC]
  exact ⟨rfl, rfl⟩
theorem RowQ.row {w : World} {q : Nat → Prop} {A : Option Addr} {n c : Nat} {zs : List Int} (h : RowQ w q (.slice A n c) zs) : Row w w.heap.size A (ints zs) ∧ zs.length = n := by
  obtain ⟨A', n', c', he, hl, h⟩ := h
  injection he with e1 e2 e3
  subst e1 e2 e3
  refine ⟨?_, hl⟩
  rcases h with h | ⟨b, off, rfl, hb, _, hc⟩
  · exact .inl (by rw [h]; rfl)
  · exact .inr ⟨b, off, rfl, hb, hc⟩
theorem own_rowQ {w w' : World} {q : Nat → Prop} {base n c : Nat} {A : Option Addr} {zs : List Int} (h : Own w' base 2 1 A n c (ints zs)) (hb : w.heap.size ≤ base) : RowQ w' (Qn q w) (.slice A n c) zs := by
  have hl : zs.length = n := by have := h.length; simpa [ints] using this
  refine ⟨A, n, c, rfl, hl, ?_⟩
  rcases h.row with h2 | ⟨b, off, rfl, hb2, hc⟩
  · exact .inl (by simpa [ints] using h2)
  · have := (h.lt b rfl).1
    exact .inr ⟨b, off, rfl, hb2, .inr (by omega), hc⟩
theorem own_base {w : World} {b b' : Nat} {e : TypeId} {size n c : Nat} {A : Option Addr} {xs : List Value} (h : Own w b e size A n c xs) (hb : b' ≤ b) : Own w b' e size A n c xs := by
  refine ⟨h.1, ?_⟩
  rcases h.2 with hv | ⟨g, cap, cur, hv, hbg, hr⟩
  · exact .inl hv
  · exact .inr ⟨g, cap, cur, hv, Nat.le_trans hb hbg, hr⟩
theorem cell_new1 (w : World) (x : Int) : ∀ j u, (ints [x])[j]? = some u → (w.alloc (.cells #[.int .i64 x] 2)).cell? ((⟨w.heap.size, 0, none⟩ : Addr).add j) = some u := by
  intro j u hu
  rw [Addr.add_lit, Nat.zero_add, (Blk.new w 2 #[.int .i64 x]).cell j]
  simpa [ints] using hu
theorem load_six {W w5 w6 : World} {o : Obj} {A5 : Option Addr} {n c5 b : Nat} {xs : List Value} {t : TypeId} {cs zs : Array Value} (hb : Below W.heap.size W w5) (hO : Own w5 W.heap.size 2 1 A5 n c5 xs) (hg : (w5.alloc o).grownBy w6 (ob A5)) (h1 : Blk w5 b t cs) (h2 : Blk w5 (b + 1) t zs) (hW : b + 1 < W.heap.size) :
    Below W.heap.size W w6 ∧ Blk w6 b t cs ∧ Blk w6 (b + 1) t zs := by
  have hx : ∀ j, ob A5 = some j → W.heap.size ≤ j := fun j hj => (hO.lt j hj).1
  refine ⟨(hb.alloc hb.size o).grown hg (by rw [World.size_alloc]; have := hb.size; omega) hx, (h1.alloc o).grown hg ?_, (h2.alloc o).grown hg ?_⟩
  · intro e
    have := hx b e.symm
    omega
  · intro e
    have := hx (b + 1) e.symm
    omega
set_option maxHeartbeats 2000000 in
theorem rload_any {w : World} {g N size k : Nat} {q : Nat → Prop} {xs bs : List Int} {A : Option Addr} {n c : Nat} {G : Value} {kd pl rg ro rt rm rs x : Int} {hd : Nat} (hb : Blk w g 2 (ints xs).toArray) (hN : xs.length = N) (hs : size = 2 ∨ size = 4 ∨ size = 8) (hB : RowQ w q (.slice A n c) bs) (hn : n ≤ 1000) (hh : hd < 4294967296)
    (hk : k = 3 + u ((hd : Int) + bs.length) % size) (hkN : k < N) (hx : x = xs.getD k 0) (C : Option Addr) (m e : Nat) (hG : G = .slice C m e) :
    Calls Try.prog 52 #[.slice (some ⟨g, 0, none⟩) N N, .int .i64 size, .agg #[.int .i64 kd, .int .u8 pl, .int .i64 rg, .int .i64 ro, .int .i64 hd, .int .i64 rt, .int .i64 rm, .slice A n c, G, .int .i64 rs]] w fun e' w' => ∃ A' c', e' = .returned (.tuple #[.agg #[.int .i64 kd, .int .u8 pl, .int .i64 rg, .int .i64 ro, .int .i64 hd, .int .i64 rt, .int .i64 rm, .slice A' (n + 1) c', G, .int .i64 rs], .bool (((n : Int) + 1) == rm)]) ∧ Own w' w.heap.size 2 1 A' (n + 1) c' (ints (bs ++ [x])) ∧ Below w.heap.size w w' := by
  subst hG
  obtain ⟨hrow, hln⟩ := hB.row
  have ck : w.cell? ⟨g, k, none⟩ = some (.int .i64 x) := by rw [hx, getD_at xs k (by omega)]; exact blk_at hb k _
  have HCE := Lib.hid (fun w => rcell_any ((hd : Int) + bs.length) size hs w)
  rw [← hk, hln] at HCE
  obtain ⟨i0, hi0, hz0, hz1, hz2⟩ := info_parts Try.info2
  have HI := Lib.hid hi0
  have HZ0 := Lib.hid hz0
  have HZ1 := Lib.hid hz1
  have HZ2 := Lib.hid hz2
  have HROW := Lib.hid hrow
  have HLN := Lib.hid (show (ints bs).length = n * 1 by simp [ints, hln])
  have HONE := Lib.hid (ints_ones bs)
  have hg := hb.lt
  obtain ⟨b, HBN⟩ : ∃ b, Hid (b = w.heap.size) := ⟨_, Lib.hid rfl⟩
  obtain ⟨W, HW⟩ : ∃ W, Hid (W = (w.alloc (.cells #[.int .i64 kd, .int .u8 pl, .int .i64 rg, .int .i64 ro, .int .i64 hd, .int .i64 rt, .int .i64 rm, .slice A n c, .slice C m e, .int .i64 rs] 44)).alloc (.cells #[.int .i64 0, .int .u8 0, .int .i64 0, .int .i64 0, .int .i64 0, .int .i64 0, .int .i64 0, .slice none 0 0, .slice none 0 0, .int .i64 0] 44)) := ⟨_, Lib.hid rfl⟩
  have hbel : Below b w W := by rw [HW.out, HBN.out]; exact ((Below.refl _ w).alloc (Nat.le_refl _) _).alloc (by simp) _
  have hsz : W.heap.size = b + 2 := by rw [HW.out, World.size_alloc, World.size_alloc, HBN.out]
  have hbx : Blk W b 44 #[.int .i64 kd, .int .u8 pl, .int .i64 rg, .int .i64 ro, .int .i64 hd, .int .i64 rt, .int .i64 rm, .slice A n c, .slice C m e, .int .i64 rs] := by rw [HW.out, HBN.out]; exact (Blk.new _ _ _).alloc _
  have hbz : Blk W (b + 1) 44 z44 := by
    have := Blk.new (w.alloc (.cells #[.int .i64 kd, .int .u8 pl, .int .i64 rg, .int .i64 ro, .int .i64 hd, .int .i64 rt, .int .i64 rm, .slice A n c, .slice C m e, .int .i64 rs] 44)) 44 z44
    rw [World.size_alloc, ← HBN.out] at this
    rw [HW.out]
    exact this
  have ck2 : W.cell? ⟨g, k, none⟩ = some (.int .i64 x) := (Below.cell (p := ⟨g, k, none⟩) hbel (by rw [HBN.out]; exact hg)).trans ck
  have HBEL := Lib.hid hbel
  have HSZ := Lib.hid hsz
  have HBX := Lib.hid hbx
  have HBZ := Lib.hid hbz
  have HROW2 := Lib.hid ((HROW.out.below (show Below w.heap.size w W by rw [← HBN.out]; exact hbel)).more (show w.heap.size ≤ W.heap.size from hbel.size))
  have q4 : W.cell? ⟨b, 4, none⟩ = some (.int .i64 hd) := (hbx.cell 4).trans rfl
  have q7 : W.cell? ⟨b, 7, none⟩ = some (.slice A n c) := (hbx.cell 7).trans rfl
  have hgb : g < b := by rw [HBN.out]; exact hg
  have hbW : b < W.heap.size := by omega
  rw [← HBN.out]
  clear hi0 hz0 hz1 hz2 hrow hln hx hk hB hs hN hb hbel hsz hbx hbz ck
  go_enter Try.func52, Try.ntmps52
  go_wp2_with fail
  rw [show (w.alloc (.cells #[.int .i64 kd, .int .u8 pl, .int .i64 rg, .int .i64 ro, .int .i64 hd, .int .i64 rt, .int .i64 rm, .slice A n c, .slice C m e, .int .i64 rs] 44)).alloc (.cells #[.int .i64 0, .int .u8 0, .int .i64 0, .int .i64 0, .int .i64 0, .int .i64 0, .int .i64 0, .slice none 0 0, .slice none 0 0, .int .i64 0] 44) = W from HW.out.symm, ← HBN.out]
  refine (HCE.out _).mono ?_
  rintro e' w1 ⟨rfl, rfl⟩
  go_wp2_with (first | (at_builtin; refine wpList_append_row _ rfl _ _ 31 rfl W.heap.size 2 i0 _ 1 8 Try.underlying31 HI.out HZ0.out HZ1.out HZ2.out rfl (by decide) _ 0 0 [] rfl (World.ownsRow_made W #[] 0 (Nat.le_refl _) (Nat.zero_le _) (by simp)) A n c W.heap.size (ints bs) rfl HLN.out (HROW2.out.below ((Below.refl _ W).alloc (Nat.le_refl _) _)) HONE.out (by unfold maxLen; omega) (by omega) (by rw [World.size_alloc]; omega) ?_; intro A5 c5 w5 hown hgrow hat; simp only [Nat.zero_add, List.nil_append] at hown ⊢; have hb5 : Below W.heap.size W w5 := ((Below.refl _ W).alloc (Nat.le_refl _) _).grown hgrow (by simp) (by intro j hj; simp [ob] at hj; omega); have HO5 := Lib.hid hown; have HB5 := Lib.hid hb5; have HBX5 := Lib.hid (HBX.out.below hb5 hbW); have HBZ5 := Lib.hid (HBZ.out.below hb5 (by have := HSZ.out; omega)); have HS5 := Lib.hid (show W.heap.size ≤ w5.heap.size from hb5.size); clear hown hgrow hat hb5) | (at_builtin; go_must (refine wpList_append_1 _ rfl _ _ 31 rfl W.heap.size 2 i0 _ 1 8 Try.underlying31 HI.out HZ0.out HZ1.out HZ2.out rfl (by decide) A5 n c5 (ints bs) rfl (HO5.out.alloc _) ⟨w5.heap.size, 0, none⟩ 1 (ints [x]) rfl rfl (cell_new1 w5 x) (by simp [ints, Value.oneCell']) (by unfold maxLen; omega) (by omega) (by rw [World.size_alloc]; have := HS5.out; omega) ?_); intro A6 c6 w6 hown hgrow hat; obtain ⟨h6, hbx6, hbz6⟩ := load_six HB5.out HO5.out hgrow HBX5.out HBZ5.out (by have := HSZ.out; omega); have HO6 := Lib.hid (show Own w6 W.heap.size 2 1 A6 (n + 1) c6 (ints (bs ++ [x])) by simpa [ints] using hown); have HB6 := Lib.hid h6; have HBX6 := Lib.hid hbx6; have HBZ6 := Lib.hid hbz6; have f7 := hbx6.frozen 7; have k7 : w6.cell? ⟨b, 7, none⟩ = some (.slice A n c) := (hbx6.cell 7).trans rfl; clear hown hgrow hat h6 hbx6 hbz6))
  obtain ⟨w7, HW7⟩ : ∃ w7, Hid (w7 = w6.setCell ⟨b, 7, none⟩ (.slice A6 (n + 1) c6)) := ⟨_, Lib.hid rfl⟩
  rw [← HW7.out]
  have hbx7 : Blk w7 b 44 #[.int .i64 kd, .int .u8 pl, .int .i64 rg, .int .i64 ro, .int .i64 hd, .int .i64 rt, .int .i64 rm, .slice A6 (n + 1) c6, .slice C m e, .int .i64 rs] := by rw [HW7.out]; exact HBX6.out.set_ 7 _
  have hbz7 : Blk w7 (b + 1) 44 z44 := by rw [HW7.out]; exact HBZ6.out.far (by simp) _
  have HO7 := Lib.hid (show Own w7 W.heap.size 2 1 A6 (n + 1) c6 (ints (bs ++ [x])) by rw [HW7.out]; exact HO6.out.setCell _ _ (HO6.out.ne_lt (by simp; omega)))
  have HB7 := Lib.hid (show Below b w w7 by rw [HW7.out]; exact (HBEL.out.trans (HB6.out.mono (by omega))).setCell (by simp) _)
  have F6 : ∀ w', SL [b + 1] w7 w' → w'.cell? ⟨b, 6, none⟩ = some (.int .i64 rm) := fun w' h => h.cell hbx7 (by simp) ((hbx7.cell 6).trans rfl)
  have F7 : ∀ w', SL [b + 1] w7 w' → w'.cell? ⟨b, 7, none⟩ = some (.slice A6 (n + 1) c6) := fun w' h => h.cell hbx7 (by simp) ((hbx7.cell 7).trans rfl)
  have LX : ∀ w', SL [b + 1] w7 w' → (loadVar 44 ⟨b, 0, none⟩).run Try.prog w' = .ok (.agg #[.int .i64 kd, .int .u8 pl, .int .i64 rg, .int .i64 ro, .int .i64 hd, .int .i64 rt, .int .i64 rm, .slice A6 (n + 1) c6, .slice C m e, .int .i64 rs]) w' := fun w' h => run_loadVar_row w' _ _ _ #[.int .i64 kd, .int .u8 pl, .int .i64 rg, .int .i64 ro, .int .i64 hd, .int .i64 rt, .int .i64 rm, .slice A6 (n + 1) c6, .slice C m e, .int .i64 rs] (0, 0) _ (Mv.blk h hbx7 (by simp)) Try.underlying44 rfl Try.infoRt
  have HD := Lib.hid (show SL [b + 1] w7 w7.drew from Mv.of_below (Below.refl _ w7).drew (Nat.le_refl _))
  have HBX7 := Lib.hid hbx7
  have HBZ7 := Lib.hid hbz7
  clear k7 f7 hbx7 hbz7 q4 q7
  refine region_sch (SL [b + 1] w7) [([0, 1, 2, 3, 4, 5, 6], 7)] [8] (by kernel_rfl) (by kernel_rfl) (by kernel_rfl) (fun _ _ d _ _ h => by cases d <;> exact h) HD.out ?_
  (try simp only [Act.put, List.setIfInBounds_toArray, List.set_cons_zero, List.set_cons_succ]); refine sch_seg ?_; simp only [pickOps, List.getElem?_toArray, List.getElem?_cons_zero, List.getElem?_cons_succ]; (repeat (first | (refine quiet_load_row (by rfl) 44 _ rfl b rfl #[.int .i64 kd, .int .u8 pl, .int .i64 rg, .int .i64 ro, .int .i64 hd, .int .i64 rt, .int .i64 rm, .slice A6 (n + 1) c6, .slice C m e, .int .i64 rs] LX ?_; simp only [Act.put, List.setIfInBounds_toArray, List.set_cons_zero, List.set_cons_succ]) | go_big_quiet_skip | (go_big_quiet_want; first | (go_big_quiet_op; first | go_big_quiet_on | ((first | with_reducible refine ⟨_, fun _ _ => rfl, ?_⟩); go_big_quiet_on)) | (simp (contextual := true) [go_sem, F6, F7]; with_reducible refine ⟨_, fun _ _ => rfl, ?_⟩; go_big_quiet_on)))); refine wpQuiet_nil ?_
  go_wp2_with (refine wpList_store_row rfl 44 _ _ rfl (b + 1) #[.int .i64 kd, .int .u8 pl, .int .i64 rg, .int .i64 ro, .int .i64 hd, .int .i64 rt, .int .i64 rm, .slice A6 (n + 1) c6, .slice C m e, .int .i64 rs] rfl rfl 44 z44 HBZ7.out.drew Try.infoRt rfl (rtArr_one ⟨kd, pl, rg, ro, hd, rt, rm, [], [], rs⟩ A6 C (n + 1) c6 m e) ?_)
  obtain ⟨w8, HW8⟩ : ∃ w8, Hid (w8 = w7.drew.setRow (b + 1) #[.int .i64 kd, .int .u8 pl, .int .i64 rg, .int .i64 ro, .int .i64 hd, .int .i64 rt, .int .i64 rm, .slice A6 (n + 1) c6, .slice C m e, .int .i64 rs]) := ⟨_, Lib.hid rfl⟩
  rw [← HW8.out]
  have hm8 : Mv [b + 1] w7.drew w8 := by rw [HW8.out]; exact mv_setRow _ _ _
  have HS8 := Lib.hid (show SL [b + 1] w7 w8 from Mv.trans HD.out hm8)
  have HBZ8 := Lib.hid (show Blk w8 (b + 1) 44 #[.int .i64 kd, .int .u8 pl, .int .i64 rg, .int .i64 ro, .int .i64 hd, .int .i64 rt, .int .i64 rm, .slice A6 (n + 1) c6, .slice C m e, .int .i64 rs] by rw [HW8.out]; exact HBZ7.out.drew.setRow _)
  have HO8 := Lib.hid (own_mv HO7.out HS8.out (by intro j hj; have := (HO7.out.lt j hj).1; have := HSZ.out; simp; omega))
  have HB8 := Lib.hid (show Below b w w8 from HB7.out.trans (Mv.low HS8.out (by have := HBZ7.out.lt; omega) (by intro j hj; simp at hj; omega)))
  clear hm8
  refine ⟨SL [b + 1] w7, HS8.out, fun _ h => h, ?_⟩
  (try simp only [Act.put]); refine sch_end ?_; simp only [pickOps, List.getElem?_toArray, List.getElem?_cons_zero, List.getElem?_cons_succ]; (repeat (first | go_big_quiet_skip | (go_big_quiet_want; first | (go_big_quiet_op; first | go_big_quiet_on | ((first | with_reducible refine ⟨_, fun _ _ => rfl, ?_⟩); go_big_quiet_on)) | (simp (contextual := true) [go_sem, F7]; with_reducible refine ⟨_, fun _ _ => rfl, ?_⟩; go_big_quiet_on)))); refine wpQuiet_nil ?_
  go_wp2_with fail
  refine bodyPost_ret (results_cell2 Try.results52 _ _ (b + 1) 44 _ (0, 0) _ rfl HBZ8.out Try.underlying44 rfl Try.infoRt) rfl ?_
  exact ⟨A6, c6, rfl, own_base HO8.out (by have := HSZ.out; omega), HB8.out⟩
end Go.Proofs.Ythnhjhlpimgkiaa

/-
  The reference's Step is an access in plain (printed by wip/genrst14.py).
-/
import Derived.Test.YthnhjhlpimgkiaaRsd14
namespace Go.Proofs.Ythnhjhlpimgkiaa
open Go.RowKit
theorem RowQ.mono {w : World} {q q' : Nat → Prop} {V : Value} {zs : List Int} (h : RowQ w q V zs) (hq : ∀ b, b < w.heap.size → q b → q' b) : RowQ w q' V zs := by
  obtain ⟨A, n, c, rfl, hl, h⟩ := h
  refine ⟨A, n, c, rfl, hl, ?_⟩
  rcases h with h | ⟨b, off, rfl, hb, hqb, hc⟩
  · exact .inl h
  · exact .inr ⟨b, off, rfl, hb, hq b hb hqb, hc⟩
theorem RowQ.old {w w' : World} {q : Nat → Prop} {V : Value} {zs : List Int} {L : List Nat} (h : RowQ w q V zs) (hm : Mv L w w') (hL : ∀ b ∈ L, ¬ q b) : RowQ w' (fun b => q b ∧ b < w.heap.size) V zs := by
  obtain ⟨A, n, c, rfl, hl, h⟩ := h
  refine ⟨A, n, c, rfl, hl, ?_⟩
  rcases h with h | ⟨b, off, rfl, hb, hq, hc⟩
  · exact .inl h
  · refine .inr ⟨b, off, rfl, Nat.lt_of_lt_of_le hb hm.size, ⟨hq, hb⟩, fun j u hu => ?_⟩
    have h1 : w'.heap[b]? = w.heap[b]? := hm.block b hb (fun h => hL b h hq)
    rw [← hc j u hu]
    unfold World.cell?
    rw [h1]
/-- A row somewhere else is written. -/
theorem RowQ.far {w w' : World} {q : Nat → Prop} {V : Value} {zs : List Int} {L : List Nat} (h : RowQ w q V zs) (hm : Mv L w w') (hL : ∀ b ∈ L, ¬ q b) : RowQ w' q V zs := (h.old hm hL).mono fun _ _ h => h.1
section
variable {w : World} {g N size : Nat} {q : Nat → Prop} {xs : List Int} {P : Pt} {R : Rt} {A C : Option Addr} {n c m e : Nat}
theorem r_all0 (hb : Blk w g 2 (ints xs).toArray) (hN : xs.length = N) (hL : size + 3 ≤ xs.length) (hs : size = 2 ∨ size = 4 ∨ size = 8) (hx : XOk xs) (hq : ¬ q g) (hr : Rel P R) (a : Ac) (hd : P.d = some a) (hk : a.kd = 0) (hB : RowQ w q (.slice A n c) R.buf) (hG : RowQ w q (.slice C m e) R.got) (hle : P.bs.length + 1 ≤ P.steps) :
    Calls Try.prog 36 #[.slice (some ⟨g, 0, none⟩) N N, .int .i64 size, .agg (rtArr R (.slice A n c) (.slice C m e))] w fun e' w' => RO w g q (acc size xs P a).1 (acc size xs P a).2 e' w' := by
  cases a with
  | putLoad => exact r_putLoad hb hN hL hs hx hq hr hd hB hG
  | putNext => exact r_putNext hb hN hL hs hx hq hr hd hB hG
  | putHead => exact r_putHead hb hN hL hs hx hq hr hd hB hG
  | putTail => exact r_putTail hb hN hL hs hx hq hr hd hB hG
  | putCell => exact r_putCell hb hN hL hs hx hq hr hd hB hG
  | putDone => exact r_putDone hb hN hL hs hx hq hr hd hB hG
  | spill => exact r_spill hb hN hL hs hx hq hr hd hB hG hle
  | spillDone => exact r_spillDone hb hN hL hs hx hq hr hd hB hG
  | getLoad => exact absurd hk (by decide)
  | getNext => exact absurd hk (by decide)
  | getHead => exact absurd hk (by decide)
  | getTail => exact absurd hk (by decide)
  | getCell => exact absurd hk (by decide)
  | getDone => exact absurd hk (by decide)
  | grabHead => exact absurd hk (by decide)
  | grabTail => exact absurd hk (by decide)
  | grabLoad => exact absurd hk (by decide)
  | grabNext => exact absurd hk (by decide)
  | grabCells => exact absurd hk (by decide)
  | grabDone => exact absurd hk (by decide)
theorem r_all1 (hb : Blk w g 2 (ints xs).toArray) (hN : xs.length = N) (hL : size + 3 ≤ xs.length) (hs : size = 2 ∨ size = 4 ∨ size = 8) (hx : XOk xs) (hq : ¬ q g) (hr : Rel P R) (a : Ac) (hd : P.d = some a) (hk : a.kd = 1) (hB : RowQ w q (.slice A n c) R.buf) (hG : RowQ w q (.slice C m e) R.got) :
    Calls Try.prog 37 #[.slice (some ⟨g, 0, none⟩) N N, .int .i64 size, .agg (rtArr R (.slice A n c) (.slice C m e))] w fun e' w' => RO w g q (acc size xs P a).1 (acc size xs P a).2 e' w' := by
  cases a with
  | putLoad => exact absurd hk (by decide)
  | putNext => exact absurd hk (by decide)
  | putHead => exact absurd hk (by decide)
  | putTail => exact absurd hk (by decide)
  | putCell => exact absurd hk (by decide)
  | putDone => exact absurd hk (by decide)
  | spill => exact absurd hk (by decide)
  | spillDone => exact absurd hk (by decide)
  | getLoad => exact r_getLoad hb hN hL hs hx hq hr hd hB hG
  | getNext => exact r_getNext hb hN hL hs hx hq hr hd hB hG
  | getHead => exact r_getHead hb hN hL hs hx hq hr hd hB hG
  | getTail => exact r_getTail hb hN hL hs hx hq hr hd hB hG
  | getCell => exact r_getCell hb hN hL hs hx hq hr hd hB hG
  | getDone => exact r_getDone hb hN hL hs hx hq hr hd hB hG
  | grabHead => exact absurd hk (by decide)
  | grabTail => exact absurd hk (by decide)
  | grabLoad => exact absurd hk (by decide)
  | grabNext => exact absurd hk (by decide)
  | grabCells => exact absurd hk (by decide)
  | grabDone => exact absurd hk (by decide)
theorem r_all2 (hb : Blk w g 2 (ints xs).toArray) (hN : xs.length = N) (hL : size + 3 ≤ xs.length) (hs : size = 2 ∨ size = 4 ∨ size = 8) (hx : XOk xs) (hq : ¬ q g) (hr : Rel P R) (a : Ac) (hd : P.d = some a) (hk : a.kd = 2) (hB : RowQ w q (.slice A n c) R.buf) (hG : RowQ w q (.slice C m e) R.got) (hle : P.bs.length + 1 ≤ P.steps) :
    Calls Try.prog 38 #[.slice (some ⟨g, 0, none⟩) N N, .int .i64 size, .agg (rtArr R (.slice A n c) (.slice C m e))] w fun e' w' => RO w g q (acc size xs P a).1 (acc size xs P a).2 e' w' := by
  cases a with
  | putLoad => exact absurd hk (by decide)
  | putNext => exact absurd hk (by decide)
  | putHead => exact absurd hk (by decide)
  | putTail => exact absurd hk (by decide)
  | putCell => exact absurd hk (by decide)
  | putDone => exact absurd hk (by decide)
  | spill => exact absurd hk (by decide)
  | spillDone => exact absurd hk (by decide)
  | getLoad => exact absurd hk (by decide)
  | getNext => exact absurd hk (by decide)
  | getHead => exact absurd hk (by decide)
  | getTail => exact absurd hk (by decide)
  | getCell => exact absurd hk (by decide)
  | getDone => exact absurd hk (by decide)
  | grabHead => exact r_grabHead hb hN hL hs hx hq hr hd hB hG
  | grabTail => exact r_grabTail hb hN hL hs hx hq hr hd hB hG
  | grabLoad => exact r_grabLoad hb hN hL hs hx hq hr hd hB hG
  | grabNext => exact r_grabNext hb hN hL hs hx hq hr hd hB hG
  | grabCells => exact r_grabCells hb hN hL hs hx hq hr hd hB hG hle
  | grabDone => exact r_grabDone hb hN hL hs hx hq hr hd hB hG
/-- The reference's task with one access more. -/
def Rt.up (R : Rt) : Rt := { R with steps := R.steps + 1 }
theorem Rel.up (h : Rel P R) (hs : P.steps < 900) : Rel P.up R.up := by
  refine ⟨h.g, h.old, h.head, h.tail, ?_, ⟨h.lt.1, h.lt.2.1, h.lt.2.2.1, ?_⟩, h.got, ⟨Nat.le_trans h.len.1 (Nat.le_succ _), Nat.le_trans h.len.2 (Nat.le_succ _)⟩, h.pos⟩
  · show R.steps + 1 = ((P.steps + 1 : Nat) : Int)
    rw [h.steps]
    omega
  · show P.steps + 1 < 1000
    omega
theorem ro_step {w W w3 w' : World} {b : Nat} {xs' : List Int} {P' : Pt} {R' : Rt} {B' G' : Value} {cs : Array Value} (hbn : b = w.heap.size) (hg : g < w.heap.size) (hbel : Below b w W) (hsz : W.heap.size = b + 2) (hrel : Rel P' R') (hB : RowQ w3 (Qn (fun x => q x ∧ x < w.heap.size) W) B' R'.buf) (hG : RowQ w3 (Qn (fun x => q x ∧ x < w.heap.size) W) G' R'.got) (hbk : Blk w3 g 2 (ints xs').toArray) (hm : Mv [g] W w3) (h' : w' = w3.setRow (b + 1) cs) :
    RO w g q xs' P' (.returned (.agg (rtArr R' B' G'))) w' := by
  subst hbn h'
  have hr : Mv [w.heap.size + 1] w3 (w3.setRow (w.heap.size + 1) cs) := mv_setRow _ _ _
  have hno : ∀ x ∈ [w.heap.size + 1], ¬ Qn (fun x => q x ∧ x < w.heap.size) W x := by
    intro x hx h
    rw [List.mem_singleton] at hx
    subst hx
    rcases h with ⟨h, _⟩ | h
    · omega
    · omega
  have hmon : ∀ x, x < (w3.setRow (w.heap.size + 1) cs).heap.size → Qn (fun x => q x ∧ x < w.heap.size) W x → Qn q w x := by
    intro x _ h
    rcases h with ⟨h, _⟩ | h
    · exact .inl h
    · exact .inr (by omega)
  refine ro_gen (hbk.farRow (by omega) _) ?_ hrel ((hB.far hr hno).mono hmon) ((hG.far hr hno).mono hmon)
  have h1 : Mv [g] w W := Mv.of_below hbel (Nat.le_refl _)
  have h2 := h1.trans hm
  exact ⟨hr.os.trans h2.os, hr.tape.trans h2.tape, hr.output.trans h2.output, Nat.le_trans h2.size hr.size, fun k hk hn => (heap_setRow w3 _ cs k (by omega)).trans (h2.block k hk hn)⟩
theorem rstep_0 (hb : Blk w g 2 (ints xs).toArray) (hN : xs.length = N) (hL : size + 3 ≤ xs.length) (hs : size = 2 ∨ size = 4 ∨ size = 8) (hx : XOk xs) (hq : ¬ q g) (hr : Rel P R) (a : Ac) (hd : P.d = some a) (hk : a.kd = 0) (hB : RowQ w q (.slice A n c) R.buf) (hG : RowQ w q (.slice C m e) R.got) (hs9 : P.steps < 900) :
    Calls Try.prog 22 #[.slice (some ⟨g, 0, none⟩) N N, .int .i64 size, .agg (rtArr R (.slice A n c) (.slice C m e))] w fun e' w' => RO w g q (acc size xs P.up a).1 (acc size xs P.up a).2 e' w' := by
  have hru := hr.up hs9
  have hle : P.up.bs.length + 1 ≤ P.up.steps := by have := hr.len.2; show P.bs.length + 1 ≤ P.steps + 1; omega
  have hkd : R.kind = 0 := by
    have h := hr.pos
    unfold AtIs at h
    rw [hd] at h
    rw [h.1, hk]
  have hst := hr.steps
  obtain ⟨b, HBN⟩ : ∃ b, Hid (b = w.heap.size) := ⟨_, Lib.hid rfl⟩
  obtain ⟨kd, pl, rg, ro, rh, rt, rm, rb, rgot, rs⟩ := R
  simp only at hkd hst
  subst hkd hst
  obtain ⟨W, HW⟩ : ∃ W, Hid (W = (w.alloc (.cells #[.int .i64 0, .int .u8 pl, .int .i64 rg, .int .i64 ro, .int .i64 rh, .int .i64 rt, .int .i64 rm, .slice A n c, .slice C m e, .int .i64 ((P.steps : Int) + 1)] 44)).alloc (.cells #[.int .i64 0, .int .u8 0, .int .i64 0, .int .i64 0, .int .i64 0, .int .i64 0, .int .i64 0, .slice none 0 0, .slice none 0 0, .int .i64 0] 44)) := ⟨_, Lib.hid rfl⟩
  have hbel : Below b w W := by rw [HW.out, HBN.out]; exact ((Below.refl _ w).alloc (Nat.le_refl _) _).alloc (by simp) _
  have hsz : W.heap.size = b + 2 := by rw [HW.out, World.size_alloc, World.size_alloc, HBN.out]
  have hbz : Blk W (b + 1) 44 z44 := by
    have h := Blk.new (w.alloc (.cells #[.int .i64 0, .int .u8 pl, .int .i64 rg, .int .i64 ro, .int .i64 rh, .int .i64 rt, .int .i64 rm, .slice A n c, .slice C m e, .int .i64 ((P.steps : Int) + 1)] 44)) 44 z44
    rw [World.size_alloc, ← HBN.out] at h
    rw [HW.out]
    exact h
  have hbw : Below w.heap.size w W := by rw [← HBN.out]; exact hbel
  have hno : ∀ x ∈ [g], ¬ q x := not_q hq
  have hrb := RowQ.old hB (Mv.of_below hbw (Nat.le_refl _) : Mv [g] w W) hno
  have hrg := RowQ.old hG (Mv.of_below hbw (Nat.le_refl _) : Mv [g] w W) hno
  have HCALL := Lib.hid (r_all0 (w := W) (q := fun x => q x ∧ x < w.heap.size) (hb.below hbw hb.lt) hN hL hs hx (fun h => hq h.1) hru a hd hk hrb hrg hle)
  have HBEL := Lib.hid hbel
  have HSZ := Lib.hid hsz
  have HBZ := Lib.hid hbz
  have hg := hb.lt
  have HGB := Lib.hid (show g < b by rw [HBN.out]; exact hg)
  generalize acc size xs P.up a = r at HCALL ⊢
  clear hrb hrg hno hbw hbz hsz hbel hle hru hr hB hG hq hx hb hk hd hN hL hs
  simp only [rtArr]
  go_enter Try.func22, Try.ntmps22
  go_wp2_with fail
  rw [show (w.alloc (.cells #[.int .i64 0, .int .u8 pl, .int .i64 rg, .int .i64 ro, .int .i64 rh, .int .i64 rt, .int .i64 rm, .slice A n c, .slice C m e, .int .i64 ((P.steps : Int) + 1)] 44)).alloc (.cells #[.int .i64 0, .int .u8 0, .int .i64 0, .int .i64 0, .int .i64 0, .int .i64 0, .int .i64 0, .slice none 0 0, .slice none 0 0, .int .i64 0] 44) = W from HW.out.symm, ← HBN.out]
  refine HCALL.out.mono ?_
  rintro e' w3 ⟨R', B', G', rfl, hrel, hB3, hG3, hbk, hm⟩
  obtain ⟨A5, n5, c5, rfl, -⟩ := id hB3
  obtain ⟨A6, n6, c6, rfl, -⟩ := id hG3
  have HREL := Lib.hid hrel
  have HB3 := Lib.hid hB3
  have HG3 := Lib.hid hG3
  have HBK := Lib.hid hbk
  have HM3 := Lib.hid hm
  have HZ3 := Lib.hid (hm.blk HBZ.out (by have := HGB.out; simp; omega))
  clear hrel hB3 hG3 hbk hm
  go_wp2_with (refine wpList_store_row rfl 44 _ _ rfl (b + 1) (rtArr R' (.slice A5 n5 c5) (.slice A6 n6 c6)) rfl rfl 44 z44 HZ3.out Try.infoRt rfl (rtArr_one _ _ _ _ _ _ _) ?_)
  refine bodyPost_ret (results_cell_row Try.results22 _ _ (b + 1) 44 (rtArr R' (.slice A5 n5 c5) (.slice A6 n6 c6)) (0, 0) _ rfl (HZ3.out.setRow _) Try.underlying44 rfl Try.infoRt) rfl ?_
  exact ro_step HBN.out hg HBEL.out HSZ.out HREL.out HB3.out HG3.out HBK.out HM3.out rfl
theorem rstep_1 (hb : Blk w g 2 (ints xs).toArray) (hN : xs.length = N) (hL : size + 3 ≤ xs.length) (hs : size = 2 ∨ size = 4 ∨ size = 8) (hx : XOk xs) (hq : ¬ q g) (hr : Rel P R) (a : Ac) (hd : P.d = some a) (hk : a.kd = 1) (hB : RowQ w q (.slice A n c) R.buf) (hG : RowQ w q (.slice C m e) R.got) (hs9 : P.steps < 900) :
    Calls Try.prog 22 #[.slice (some ⟨g, 0, none⟩) N N, .int .i64 size, .agg (rtArr R (.slice A n c) (.slice C m e))] w fun e' w' => RO w g q (acc size xs P.up a).1 (acc size xs P.up a).2 e' w' := by
  have hru := hr.up hs9
  have hle : P.up.bs.length + 1 ≤ P.up.steps := by have := hr.len.2; show P.bs.length + 1 ≤ P.steps + 1; omega
  have hkd : R.kind = 1 := by
    have h := hr.pos
    unfold AtIs at h
    rw [hd] at h
    rw [h.1, hk]
  have hst := hr.steps
  obtain ⟨b, HBN⟩ : ∃ b, Hid (b = w.heap.size) := ⟨_, Lib.hid rfl⟩
  obtain ⟨kd, pl, rg, ro, rh, rt, rm, rb, rgot, rs⟩ := R
  simp only at hkd hst
  subst hkd hst
  obtain ⟨W, HW⟩ : ∃ W, Hid (W = (w.alloc (.cells #[.int .i64 1, .int .u8 pl, .int .i64 rg, .int .i64 ro, .int .i64 rh, .int .i64 rt, .int .i64 rm, .slice A n c, .slice C m e, .int .i64 ((P.steps : Int) + 1)] 44)).alloc (.cells #[.int .i64 0, .int .u8 0, .int .i64 0, .int .i64 0, .int .i64 0, .int .i64 0, .int .i64 0, .slice none 0 0, .slice none 0 0, .int .i64 0] 44)) := ⟨_, Lib.hid rfl⟩
  have hbel : Below b w W := by rw [HW.out, HBN.out]; exact ((Below.refl _ w).alloc (Nat.le_refl _) _).alloc (by simp) _
  have hsz : W.heap.size = b + 2 := by rw [HW.out, World.size_alloc, World.size_alloc, HBN.out]
  have hbz : Blk W (b + 1) 44 z44 := by
    have h := Blk.new (w.alloc (.cells #[.int .i64 1, .int .u8 pl, .int .i64 rg, .int .i64 ro, .int .i64 rh, .int .i64 rt, .int .i64 rm, .slice A n c, .slice C m e, .int .i64 ((P.steps : Int) + 1)] 44)) 44 z44
    rw [World.size_alloc, ← HBN.out] at h
    rw [HW.out]
    exact h
  have hbw : Below w.heap.size w W := by rw [← HBN.out]; exact hbel
  have hno : ∀ x ∈ [g], ¬ q x := not_q hq
  have hrb := RowQ.old hB (Mv.of_below hbw (Nat.le_refl _) : Mv [g] w W) hno
  have hrg := RowQ.old hG (Mv.of_below hbw (Nat.le_refl _) : Mv [g] w W) hno
  have HCALL := Lib.hid (r_all1 (w := W) (q := fun x => q x ∧ x < w.heap.size) (hb.below hbw hb.lt) hN hL hs hx (fun h => hq h.1) hru a hd hk hrb hrg)
  have HBEL := Lib.hid hbel
  have HSZ := Lib.hid hsz
  have HBZ := Lib.hid hbz
  have hg := hb.lt
  have HGB := Lib.hid (show g < b by rw [HBN.out]; exact hg)
  generalize acc size xs P.up a = r at HCALL ⊢
  clear hrb hrg hno hbw hbz hsz hbel hle hru hr hB hG hq hx hb hk hd hN hL hs
  simp only [rtArr]
  go_enter Try.func22, Try.ntmps22
  go_wp2_with fail
  rw [show (w.alloc (.cells #[.int .i64 1, .int .u8 pl, .int .i64 rg, .int .i64 ro, .int .i64 rh, .int .i64 rt, .int .i64 rm, .slice A n c, .slice C m e, .int .i64 ((P.steps : Int) + 1)] 44)).alloc (.cells #[.int .i64 0, .int .u8 0, .int .i64 0, .int .i64 0, .int .i64 0, .int .i64 0, .int .i64 0, .slice none 0 0, .slice none 0 0, .int .i64 0] 44) = W from HW.out.symm, ← HBN.out]
  refine HCALL.out.mono ?_
  rintro e' w3 ⟨R', B', G', rfl, hrel, hB3, hG3, hbk, hm⟩
  obtain ⟨A5, n5, c5, rfl, -⟩ := id hB3
  obtain ⟨A6, n6, c6, rfl, -⟩ := id hG3
  have HREL := Lib.hid hrel
  have HB3 := Lib.hid hB3
  have HG3 := Lib.hid hG3
  have HBK := Lib.hid hbk
  have HM3 := Lib.hid hm
  have HZ3 := Lib.hid (hm.blk HBZ.out (by have := HGB.out; simp; omega))
  clear hrel hB3 hG3 hbk hm
  go_wp2_with (refine wpList_store_row rfl 44 _ _ rfl (b + 1) (rtArr R' (.slice A5 n5 c5) (.slice A6 n6 c6)) rfl rfl 44 z44 HZ3.out Try.infoRt rfl (rtArr_one _ _ _ _ _ _ _) ?_)
  refine bodyPost_ret (results_cell_row Try.results22 _ _ (b + 1) 44 (rtArr R' (.slice A5 n5 c5) (.slice A6 n6 c6)) (0, 0) _ rfl (HZ3.out.setRow _) Try.underlying44 rfl Try.infoRt) rfl ?_
  exact ro_step HBN.out hg HBEL.out HSZ.out HREL.out HB3.out HG3.out HBK.out HM3.out rfl
theorem rstep_2 (hb : Blk w g 2 (ints xs).toArray) (hN : xs.length = N) (hL : size + 3 ≤ xs.length) (hs : size = 2 ∨ size = 4 ∨ size = 8) (hx : XOk xs) (hq : ¬ q g) (hr : Rel P R) (a : Ac) (hd : P.d = some a) (hk : a.kd = 2) (hB : RowQ w q (.slice A n c) R.buf) (hG : RowQ w q (.slice C m e) R.got) (hs9 : P.steps < 900) :
    Calls Try.prog 22 #[.slice (some ⟨g, 0, none⟩) N N, .int .i64 size, .agg (rtArr R (.slice A n c) (.slice C m e))] w fun e' w' => RO w g q (acc size xs P.up a).1 (acc size xs P.up a).2 e' w' := by
  have hru := hr.up hs9
  have hle : P.up.bs.length + 1 ≤ P.up.steps := by have := hr.len.2; show P.bs.length + 1 ≤ P.steps + 1; omega
  have hkd : R.kind = 2 := by
    have h := hr.pos
    unfold AtIs at h
    rw [hd] at h
    rw [h.1, hk]
  have hst := hr.steps
  obtain ⟨b, HBN⟩ : ∃ b, Hid (b = w.heap.size) := ⟨_, Lib.hid rfl⟩
  obtain ⟨kd, pl, rg, ro, rh, rt, rm, rb, rgot, rs⟩ := R
  simp only at hkd hst
  subst hkd hst
  obtain ⟨W, HW⟩ : ∃ W, Hid (W = (w.alloc (.cells #[.int .i64 2, .int .u8 pl, .int .i64 rg, .int .i64 ro, .int .i64 rh, .int .i64 rt, .int .i64 rm, .slice A n c, .slice C m e, .int .i64 ((P.steps : Int) + 1)] 44)).alloc (.cells #[.int .i64 0, .int .u8 0, .int .i64 0, .int .i64 0, .int .i64 0, .int .i64 0, .int .i64 0, .slice none 0 0, .slice none 0 0, .int .i64 0] 44)) := ⟨_, Lib.hid rfl⟩
  have hbel : Below b w W := by rw [HW.out, HBN.out]; exact ((Below.refl _ w).alloc (Nat.le_refl _) _).alloc (by simp) _
  have hsz : W.heap.size = b + 2 := by rw [HW.out, World.size_alloc, World.size_alloc, HBN.out]
  have hbz : Blk W (b + 1) 44 z44 := by
    have h := Blk.new (w.alloc (.cells #[.int .i64 2, .int .u8 pl, .int .i64 rg, .int .i64 ro, .int .i64 rh, .int .i64 rt, .int .i64 rm, .slice A n c, .slice C m e, .int .i64 ((P.steps : Int) + 1)] 44)) 44 z44
    rw [World.size_alloc, ← HBN.out] at h
    rw [HW.out]
    exact h
  have hbw : Below w.heap.size w W := by rw [← HBN.out]; exact hbel
  have hno : ∀ x ∈ [g], ¬ q x := not_q hq
  have hrb := RowQ.old hB (Mv.of_below hbw (Nat.le_refl _) : Mv [g] w W) hno
  have hrg := RowQ.old hG (Mv.of_below hbw (Nat.le_refl _) : Mv [g] w W) hno
  have HCALL := Lib.hid (r_all2 (w := W) (q := fun x => q x ∧ x < w.heap.size) (hb.below hbw hb.lt) hN hL hs hx (fun h => hq h.1) hru a hd hk hrb hrg hle)
  have HBEL := Lib.hid hbel
  have HSZ := Lib.hid hsz
  have HBZ := Lib.hid hbz
  have hg := hb.lt
  have HGB := Lib.hid (show g < b by rw [HBN.out]; exact hg)
  generalize acc size xs P.up a = r at HCALL ⊢
  clear hrb hrg hno hbw hbz hsz hbel hle hru hr hB hG hq hx hb hk hd hN hL hs
  simp only [rtArr]
  go_enter Try.func22, Try.ntmps22
  go_wp2_with fail
  rw [show (w.alloc (.cells #[.int .i64 2, .int .u8 pl, .int .i64 rg, .int .i64 ro, .int .i64 rh, .int .i64 rt, .int .i64 rm, .slice A n c, .slice C m e, .int .i64 ((P.steps : Int) + 1)] 44)).alloc (.cells #[.int .i64 0, .int .u8 0, .int .i64 0, .int .i64 0, .int .i64 0, .int .i64 0, .int .i64 0, .slice none 0 0, .slice none 0 0, .int .i64 0] 44) = W from HW.out.symm, ← HBN.out]
  refine HCALL.out.mono ?_
  rintro e' w3 ⟨R', B', G', rfl, hrel, hB3, hG3, hbk, hm⟩
  obtain ⟨A5, n5, c5, rfl, -⟩ := id hB3
  obtain ⟨A6, n6, c6, rfl, -⟩ := id hG3
  have HREL := Lib.hid hrel
  have HB3 := Lib.hid hB3
  have HG3 := Lib.hid hG3
  have HBK := Lib.hid hbk
  have HM3 := Lib.hid hm
  have HZ3 := Lib.hid (hm.blk HBZ.out (by have := HGB.out; simp; omega))
  clear hrel hB3 hG3 hbk hm
  go_wp2_with (refine wpList_store_row rfl 44 _ _ rfl (b + 1) (rtArr R' (.slice A5 n5 c5) (.slice A6 n6 c6)) rfl rfl 44 z44 HZ3.out Try.infoRt rfl (rtArr_one _ _ _ _ _ _ _) ?_)
  refine bodyPost_ret (results_cell_row Try.results22 _ _ (b + 1) 44 (rtArr R' (.slice A5 n5 c5) (.slice A6 n6 c6)) (0, 0) _ rfl (HZ3.out.setRow _) Try.underlying44 rfl Try.infoRt) rfl ?_
  exact ro_step HBN.out hg HBEL.out HSZ.out HREL.out HB3.out HG3.out HBK.out HM3.out rfl
/-- The reference's Step. -/
theorem rstep_any (hb : Blk w g 2 (ints xs).toArray) (hN : xs.length = N) (hL : size + 3 ≤ xs.length) (hs : size = 2 ∨ size = 4 ∨ size = 8) (hx : XOk xs) (hq : ¬ q g) (hr : Rel P R) (a : Ac) (hd : P.d = some a) (hB : RowQ w q (.slice A n c) R.buf) (hG : RowQ w q (.slice C m e) R.got) (hs9 : P.steps < 900) :
    Calls Try.prog 22 #[.slice (some ⟨g, 0, none⟩) N N, .int .i64 size, .agg (rtArr R (.slice A n c) (.slice C m e))] w fun e' w' => RO w g q (acc size xs P.up a).1 (acc size xs P.up a).2 e' w' := by
  have hk : a.kd = 0 ∨ a.kd = 1 ∨ a.kd = 2 := by cases a <;> simp [Ac.kd]
  rcases hk with hk | hk | hk
  · exact rstep_0 hb hN hL hs hx hq hr a hd hk hB hG hs9
  · exact rstep_1 hb hN hL hs hx hq hr a hd hk hB hG hs9
  · exact rstep_2 hb hN hL hs hx hq hr a hd hk hB hG hs9
end
end Go.Proofs.Ythnhjhlpimgkiaa

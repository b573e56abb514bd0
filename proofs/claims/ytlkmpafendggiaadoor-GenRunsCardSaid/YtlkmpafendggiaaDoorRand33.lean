/-
  Chapter 33: what stands in memory while gen.Random throws a program. No function of the program in sight.
-/
import Derived.Test.YtlkmpafendggiaaDoorInstr33
namespace Go.Proofs.YtlkmpafendggiaaDoor
open Go.RowKit
section
variable {w w' : World} {base : Nat} {e : TypeId} {size n c : Nat} {A : Option Addr} {xs : List Value}
theorem Own.of_block (h : Own w base e size A n c xs) (hk : ∀ k, ob A = some k → w'.heap[k]? = w.heap[k]?) : Own w' base e size A n c xs := by
  refine ⟨h.1, ?_⟩
  rcases h.2 with hn | ⟨g, cap, cur, hv, hg, hh, rest⟩
  · exact .inl hn
  · refine .inr ⟨g, cap, cur, hv, hg, ?_, rest⟩
    injection hv with hv
    rw [hk g (by rw [hv]; rfl)]
    exact hh
theorem Own.setAt {g : Nat} (h : Own w base e size (some ⟨g, 0, none⟩) n c xs) (i : Nat) (v : Value) : Own (w.setCell ⟨g, i, none⟩ v) base e size (some ⟨g, 0, none⟩) n c (xs.set i v) := by
  refine ⟨by rw [List.length_set]; exact h.1, ?_⟩
  rcases h.2 with ⟨hn, _⟩ | ⟨g', cap, cur, hv, hg, hh, h1, h2, h3, h4⟩
  · cases hn
  · injection hv with hv hn hc
    injection hv with hv
    injection hv with hv
    subst hv
    refine .inr ⟨g, cap, cur.setIfInBounds i v, by rw [hc], hg, ?_, h1, h2, by simpa using h3, ?_⟩
    · exact Blk.set_ (t := e) hh i v
    · rw [← h4, Array.toList_setIfInBounds, List.take_set]
theorem Own.some_ (h : Own w base e size A n c xs) (hn : 0 < n) : ∃ g, A = some ⟨g, 0, none⟩ ∧ base ≤ g ∧ g < w.heap.size := by
  rcases h.2 with ⟨_, h0⟩ | ⟨g, cap, cur, hv, hb, hh, _⟩
  · omega
  · injection hv with hv
    exact ⟨g, hv, hb, (h.lt g (by rw [hv]; rfl)).2⟩
end
theorem cell_grown' {w w1 : World} {o : Obj} {row : Option Nat} {b i : Nat} (hg : (w.alloc o).grownBy w1 row) (hb : b < w.heap.size) (hne : row ≠ some b) : w1.cell? ⟨b, i, none⟩ = w.cell? ⟨b, i, none⟩ :=
  World.cell?_of_block (w := w) ((hg.block b (by rw [World.size_alloc]; omega) (fun e => hne e.symm)).trans (Below.heap_alloc _ _ _ hb))
/-- The last instruction of a row is turned. -/
theorem flat_set_last (pre : List Ins) (l x : Ins) : ((((((pre ++ [l]).flatMap insVals).set (pre.length * 5) (.int .i64 x.op)).set (pre.length * 5 + 1) (.int .i64 x.a)).set (pre.length * 5 + 2) (.int .i64 x.b)).set (pre.length * 5 + 3) (.int .i64 x.c)).set (pre.length * 5 + 4) (.int .i64 x.n) = (pre ++ [x]).flatMap insVals := by
  rw [List.flatMap_append, List.flatMap_append]
  have hl : (pre.flatMap insVals).length = pre.length * 5 := flat_length insVals_len pre
  simp only [List.flatMap_cons, List.flatMap_nil, List.append_nil]
  rw [List.set_append_right _ _ (by omega), List.set_append_right _ _ (by omega), List.set_append_right _ _ (by omega), List.set_append_right _ _ (by omega), List.set_append_right _ _ (by omega), hl]
  simp [insVals]
/-- What stands but for the dice and the function that is thrown. -/
structure St (w wq : World) (gd gm fb : Nat) (G : Option Addr) (cG : Nat) (al : List FnA) (gs : List Fn) : Prop where
  blk : Blk wq gm 77 #[.pointer (some ⟨gd, 0, none⟩), .slice G gs.length cG]
  own : Own wq (gm + 1) 41 2 G gs.length cG (al.flatMap fnaVals)
  hG : ∀ k, ob G = some k → k < fb
  fns : FnsAt wq (fun b => gm < b ∧ b < fb ∧ ob G ≠ some b) al gs
  res : Blk wq w.heap.size 32 #[.slice none 0 0]
  low : Below w.heap.size w wq
  o1 : w.heap.size < gd
  o2 : gd < gm
  o3 : gm < fb
  o4 : fb ≤ wq.heap.size
section
variable {w wq w1 : World} {gd gm fb : Nat} {G : Option Addr} {cG : Nat} {al : List FnA} {gs : List Fn}
theorem St.keep (s : St w wq gd gm fb G cG al gs) (hk : ∀ b, b < fb → b ≠ gd → w1.heap[b]? = wq.heap[b]?) (hs : wq.heap.size ≤ w1.heap.size) (h1 : w1.os = wq.os) (h2 : w1.tape = wq.tape) (h3 : w1.output = wq.output) : St w w1 gd gm fb G cG al gs := by
  have o1 := s.o1
  have o2 := s.o2
  have o3 := s.o3
  refine ⟨(hk gm (by omega) (by omega)).trans s.blk, s.own.of_block fun k hk' => hk k (s.hG k hk') (by have := (s.own.lt k hk').1; omega), s.hG, s.fns.keep fun b hb => hk b hb.2.1 (by omega), (hk _ (by omega) (by omega)).trans s.res, ?_, o1, o2, o3, Nat.le_trans s.o4 hs⟩
  exact ⟨h1.trans s.low.os, h2.trans s.low.tape, h3.trans s.low.output, Nat.le_trans s.low.size hs, fun b hb => (hk b (by omega) (by omega)).trans (s.low.block b hb)⟩
theorem St.grown {r : Option Nat} (s : St w wq gd gm fb G cG al gs) (h : wq.grownBy w1 r) (hr : ∀ k, r = some k → k = gd ∨ fb ≤ k) : St w w1 gd gm fb G cG al gs :=
  s.keep (fun b hb hne => h.block b (Nat.lt_of_lt_of_le hb s.o4) (fun e => by rcases hr b e.symm with q | q <;> omega)) h.size h.os h.tape h.output
theorem St.below (s : St w wq gd gm fb G cG al gs) (h : Below wq.heap.size wq w1) : St w w1 gd gm fb G cG al gs := s.grown (grown_below h none) (fun _ h => by cases h)
theorem St.setCell (s : St w wq gd gm fb G cG al gs) {p : Addr} (hp : fb ≤ p.block) (v : Value) : St w (wq.setCell p v) gd gm fb G cG al gs :=
  s.grown (grown_set wq p v) (fun k hk => by injection hk with hk; right; omega)
theorem St.tab (s : St w wq gd gm fb G cG al gs) (hT : Tab w) : Tab wq := hT.step s.low
/-- Its functions, as a whole program. -/
theorem St.ok (s : St w wq gd gm fb G cG al gs) : FnsOk wq wq.heap.size G gs := s.fns.ok (fun b hb => by have := s.o4; omega) s.own.rowN
end
/-- A function is being thrown: j places of it, i of them looked at. -/
structure Thr (wq : World) (gd fb : Nat) (C : Option Addr) (c : Nat) (S : Option Addr) (sc j i : Nat) (codes : List Ins) (bs : List Bool) (y : Int) : Prop where
  dice : Blk wq gd 73 #[.int .u64 y]
  fblk : Blk wq fb 41 #[.slice C j c, .slice S i sc]
  ownC : Own wq (fb + 1) 26 5 C j c (codes.flatMap insVals)
  ownS : Own wq (fb + 1) 4 1 S i sc (boolVals bs)
  ap : Apart C S
  lc : codes.length = j
  lb : bs.length = i
  o : gd < fb
section
variable {wq w1 w2 : World} {gd fb : Nat} {C S A' : Option Addr} {c sc j i c2 : Nat} {codes : List Ins} {bs : List Bool} {y y' : Int} {o : Obj}
theorem Thr.dice_ (t : Thr wq gd fb C c S sc j i codes bs y) (h : wq.grownBy w1 (some gd)) (hd : Blk w1 gd 73 #[.int .u64 y']) : Thr w1 gd fb C c S sc j i codes bs y' := by
  have ho := t.o
  exact ⟨hd, t.fblk.grown h (fun e => by injection e with e; omega), t.ownC.kept h (.inr fun e => by have := (t.ownC.lt _ e).1; omega), t.ownS.kept h (.inr fun e => by have := (t.ownS.lt _ e).1; omega), t.ap, t.lc, t.lb, t.o⟩
theorem Thr.alloc (t : Thr wq gd fb C c S sc j i codes bs y) (o : Obj) : Thr (wq.alloc o) gd fb C c S sc j i codes bs y :=
  ⟨t.dice.alloc o, t.fblk.alloc o, t.ownC.alloc o, t.ownS.alloc o, t.ap, t.lc, t.lb, t.o⟩
/-- One instruction more. -/
theorem Thr.pushC (t : Thr wq gd fb C c S sc j i codes bs y) (x : Ins) (hg : (wq.alloc o).grownBy w1 (ob C)) (hown : Own w1 (fb + 1) 26 5 A' (j + 1) c2 (codes.flatMap insVals ++ insVals x)) (hat : ob A' = ob C ∨ ob A' = some (wq.alloc o).heap.size) :
    Thr (w1.setCell ⟨fb, 0, none⟩ (.slice A' (j + 1) c2)) gd fb A' c2 S sc (j + 1) i (codes ++ [x]) bs y := by
  have ho := t.o
  have hnf : some fb ≠ ob C := fun e => by have := (t.ownC.lt fb e.symm).1; omega
  have hnd : some gd ≠ ob C := fun e => by have := (t.ownC.lt gd e.symm).1; omega
  refine ⟨((t.dice.alloc o).grown hg hnd).far (show gd ≠ fb by omega) _, ?_, ?_, ((own_other t.ownS hg t.ap).setCell _ _ (t.ownS.ne_lt (show fb < fb + 1 by omega))), apart_append t.ownS hat t.ap, by simp [t.lc], t.lb, t.o⟩
  · have := ((t.fblk.alloc o).grown hg hnf).set_ 0 (.slice A' (j + 1) c2)
    simpa using this
  · rw [List.flatMap_append]
    simpa using hown.setCell ⟨fb, 0, none⟩ (.slice A' (j + 1) c2) (hown.ne_lt (show fb < fb + 1 by omega))
/-- One place more. -/
theorem Thr.pushS (t : Thr wq gd fb C c S sc j i codes bs y) (x : Bool) (hg : (wq.alloc o).grownBy w1 (ob S)) (hown : Own w1 (fb + 1) 4 1 A' (i + 1) c2 (boolVals bs ++ [.bool x])) (hat : ob A' = ob S ∨ ob A' = some (wq.alloc o).heap.size) :
    Thr (w1.setCell ⟨fb, 1, none⟩ (.slice A' (i + 1) c2)) gd fb C c A' c2 j (i + 1) codes (bs ++ [x]) y := by
  have ho := t.o
  have hnf : some fb ≠ ob S := fun e => by have := (t.ownS.lt fb e.symm).1; omega
  have hnd : some gd ≠ ob S := fun e => by have := (t.ownS.lt gd e.symm).1; omega
  refine ⟨((t.dice.alloc o).grown hg hnd).far (show gd ≠ fb by omega) _, ?_, ((own_other t.ownC hg t.ap.symm).setCell _ _ (t.ownC.ne_lt (show fb < fb + 1 by omega))), ?_, (apart_append t.ownC hat t.ap.symm).symm, t.lc, by simp [t.lb], t.o⟩
  · have := ((t.fblk.alloc o).grown hg hnf).set_ 1 (.slice A' (i + 1) c2)
    simpa using this
  · have := hown.setCell ⟨fb, 1, none⟩ (.slice A' (i + 1) c2) (hown.ne_lt (show fb < fb + 1 by omega))
    simpa [boolVals] using this
theorem Thr.start {w : World} (hd : Blk w gd 73 #[.int .u64 y]) : Thr (w.alloc (.cells #[.slice none 0 0, .slice none 0 0] 41)) gd w.heap.size none 0 none 0 0 0 [] [] y :=
  ⟨hd.alloc _, Blk.new _ _ _, Own.nil _ _ _ _, Own.nil _ _ _ _, Apart.none_l _, rfl, rfl, hd.lt⟩
/-- The cells that a drawn statement reads stay while a row of the function's is appended to. -/
theorem Thr.fcell {row : Option Nat} (t : Thr wq gd fb C c S sc j i codes bs y) (hg : (wq.alloc o).grownBy w1 row) (hr : ∀ k, row = some k → fb + 1 ≤ k) (q : Nat) : w1.cell? ⟨fb, q, none⟩ = wq.cell? ⟨fb, q, none⟩ :=
  cell_grown' hg t.fblk.lt (fun e => by have := hr fb e; omega)
end
/-- The last instruction is turned into another one. -/
theorem Thr.last {wq : World} {gd fb gC : Nat} {S : Option Addr} {c sc j i : Nat} {pre : List Ins} {l : Ins} {bs : List Bool} {y : Int} (t : Thr wq gd fb (some ⟨gC, 0, none⟩) c S sc j i (pre ++ [l]) bs y) (x : Ins) :
    Thr (((((wq.setCell ⟨gC, pre.length * 5, none⟩ (.int .i64 x.op)).setCell ⟨gC, pre.length * 5 + 1, none⟩ (.int .i64 x.a)).setCell ⟨gC, pre.length * 5 + 2, none⟩ (.int .i64 x.b)).setCell ⟨gC, pre.length * 5 + 3, none⟩ (.int .i64 x.c)).setCell ⟨gC, pre.length * 5 + 4, none⟩ (.int .i64 x.n)) gd fb (some ⟨gC, 0, none⟩) c S sc j i (pre ++ [x]) bs y := by
  have ho := t.o
  have hC := (t.ownC.lt gC rfl).1
  have hne : ob S = none ∨ ob S ≠ some gC := .inr fun e => t.ap gC rfl e
  have h1 := ((((t.ownC.setAt (pre.length * 5) (.int .i64 x.op)).setAt (pre.length * 5 + 1) (.int .i64 x.a)).setAt (pre.length * 5 + 2) (.int .i64 x.b)).setAt (pre.length * 5 + 3) (.int .i64 x.c)).setAt (pre.length * 5 + 4) (.int .i64 x.n)
  rw [flat_set_last] at h1
  have q1 : gd ≠ gC := by omega
  have q2 : fb ≠ gC := by omega
  refine ⟨((((t.dice.far q1 _).far q1 _).far q1 _).far q1 _).far q1 _, ((((t.fblk.far q2 _).far q2 _).far q2 _).far q2 _).far q2 _, h1, ((((t.ownS.setCell _ _ hne).setCell _ _ hne).setCell _ _ hne).setCell _ _ hne).setCell _ _ hne, t.ap, ?_, t.lb, t.o⟩
  have := t.lc
  simpa using this
/-- The function is put into the program. -/
theorem St.push {w wq w1 : World} {gd gm fb : Nat} {G G' C S : Option Addr} {cG cG' c sc j : Nat} {al : List FnA} {gs : List Fn} {codes : List Ins} {bs : List Bool} {y : Int} {o : Obj} (s : St w wq gd gm fb G cG al gs) (t : Thr wq gd fb C c S sc j j codes bs y) (hok : ∀ i ∈ codes, InsOk i) (hj : j ≤ 100)
    (hg : (wq.alloc o).grownBy w1 (ob G)) (hown : Own w1 (gm + 1) 41 2 G' (gs.length + 1) cG' (al.flatMap fnaVals ++ fnaVals ⟨C, j, c, S, j, sc⟩)) (hat : ob G' = ob G ∨ ob G' = some (wq.alloc o).heap.size) :
    St w (w1.setCell ⟨gm, 1, none⟩ (.slice G' (gs.length + 1) cG')) gd gm (w1.setCell ⟨gm, 1, none⟩ (.slice G' (gs.length + 1) cG')).heap.size G' cG' (al ++ [⟨C, j, c, S, j, sc⟩]) (gs ++ [⟨codes, bs⟩]) ∧ Blk (w1.setCell ⟨gm, 1, none⟩ (.slice G' (gs.length + 1) cG')) gd 73 #[.int .u64 y] := by
  have o1 := s.o1
  have o2 := s.o2
  have o3 := s.o3
  have o4 := s.o4
  have hmx : j ≤ maxLen := by unfold maxLen; omega
  have hs : (w1.setCell ⟨gm, 1, none⟩ (.slice G' (gs.length + 1) cG')).heap.size = w1.heap.size := by simp [World.setCell]
  have hsz := hg.size
  rw [World.size_alloc] at hsz
  have hgG : ∀ b, b ≤ gm → ob G ≠ some b := fun b hb e => by have := (s.own.lt b e).1; omega
  have hkeep : ∀ b, b < wq.heap.size → b ≠ gm → ob G ≠ some b → (w1.setCell ⟨gm, 1, none⟩ (.slice G' (gs.length + 1) cG')).heap[b]? = wq.heap[b]? := fun b hb h1 h2 =>
    (Below.heap_setCell _ _ _ _ h1).trans ((hg.block b (by rw [World.size_alloc]; omega) (fun e => h2 e.symm)).trans (Below.heap_alloc _ _ _ hb))
  have hG' : ∀ b, b < wq.heap.size → ob G ≠ some b → ob G' ≠ some b := fun b hb h e => by
    rcases hat with q | q
    · exact h (q ▸ e)
    · rw [q, World.size_alloc] at e; injection e with e; omega
  have hfar : ∀ b, fb + 1 ≤ b → ob G ≠ some b := fun b hb e => by have := s.hG b e; omega
  have ho2 := hown.setCell ⟨gm, 1, none⟩ (.slice G' (gs.length + 1) cG') (hown.ne_lt (show gm < gm + 1 by omega))
  have hnew : ∀ b, fb + 1 ≤ b → b < wq.heap.size → gm < b ∧ b < (w1.setCell ⟨gm, 1, none⟩ (.slice G' (gs.length + 1) cG')).heap.size ∧ ob G' ≠ some b := fun b h1 h2 => ⟨by omega, by rw [hs]; omega, hG' b h2 (hfar b h1)⟩
  have hkn : ∀ b, fb + 1 ≤ b ∧ b < wq.heap.size → (w1.setCell ⟨gm, 1, none⟩ (.slice G' (gs.length + 1) cG')).heap[b]? = wq.heap[b]? := fun b hb => hkeep b hb.2 (by omega) (hfar b hb.1)
  refine ⟨⟨?_, ?_, ?_, ?_, (hkeep _ (by omega) (by omega) (hgG _ (by omega))).trans s.res, ?_, o1, o2, by rw [hs]; omega, Nat.le_refl _⟩, (hkeep gd (by omega) (by omega) (hgG gd (by omega))).trans t.dice⟩
  · have := ((s.blk.alloc o).grown hg (fun e => hgG gm (Nat.le_refl _) e.symm)).set_ 1 (.slice G' (gs.length + 1) cG')
    simpa using this
  · rw [List.flatMap_append, List.length_append]
    simpa using ho2
  · intro k hk
    exact (ho2.lt k hk).2
  · refine ((s.fns.keep fun b hb => hkeep b (by omega) (by omega) hb.2.2).mono fun b hb => ⟨hb.1, by rw [hs]; omega, hG' b (by omega) hb.2.2⟩).snoc ⟨t.lc.symm, t.lb.symm, ?_, ?_, hmx, hmx, hok⟩
    · exact (t.ownC.rowS.keep hkn).mono fun b hb => hnew b hb.1 hb.2
    · exact (t.ownS.rowS.keep hkn).mono fun b hb => hnew b hb.1 hb.2
  · exact ⟨hg.os.trans s.low.os, hg.tape.trans s.low.tape, hg.output.trans s.low.output, by rw [hs]; have := s.low.size; omega, fun b hb => (hkeep b (by have := s.low.size; omega) (by omega) (hgG b (by omega))).trans (s.low.block b hb)⟩
end Go.Proofs.YtlkmpafendggiaaDoor

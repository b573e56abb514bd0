/-
  Chapter 9: contract of valid.Mend: the result lies in memory as the mended program. Conditions: the table is laid, the program lies in memory and is light.
-/
import Derived.Test.YtfgaonkoaolffaaDoorMend9
import Derived.Test.YtfgaonkoaolffaaDoorBuild
import Derived.Deep.OwnRows
import Derived.Laws.CopyOwn
namespace Go.Proofs.YtfgaonkoaolffaaDoor
open Go.RowKit
theorem Tryd.infoBool : (Tryd.prog.info? 4).map (fun i => (i.zero, i.size, i.bytes)) = some (some (.bool false), 1, 1) := by kernel_rfl
theorem Tryd.infoFn : (Tryd.prog.info? 39).map (fun i => (i.zero, i.size, i.bytes)) = some (some (.agg #[.slice none 0 0, .slice none 0 0]), 2, 48) := by kernel_rfl
/-- What Mend's outer loop has done behind k functions. -/
def MendInv (w : World) (g : Nat) (gs : List Fn) (wr : World) : Prop :=
  ∃ (G : Option Addr) (cG : Nat) (al : List FnA), Blk wr g 24 #[.slice G gs.length cG] ∧ Own wr (g + 1) 39 2 G gs.length cG (al.flatMap fnaVals) ∧ FnsAt wr (Off wr g G) al gs ∧ Below w.heap.size w wr
theorem MendInv.start (w W : World) (hb : Below w.heap.size w W) : MendInv w W.heap.size [] (W.alloc (.cells #[.slice none 0 0] 24)) :=
  ⟨none, 0, [], Blk.new _ _ _, Own.nil _ _ _ _, FnsAt.nil _ _, hb.alloc hb.size _⟩
/-- What Mend's drawn region makes: a function with cloned code and places of which none is safe. -/
def MendCut (W : World) (f : Fn) (fn : Nat) (v5 : Value) (wc : World) : Prop :=
  ∃ (g : Nat) (C' : Option Addr) (c' gS : Nat), v5 = .pointer (some ⟨g, 0, none⟩) ∧ Blk wc g 39 #[.slice C' fn c', .slice (some ⟨gS, 0, none⟩) fn fn] ∧ Own wc W.heap.size 43 5 C' fn c' (f.code.flatMap insVals) ∧
    Blk wc gS 4 (madeCells #[.bool false] fn) ∧ W.heap.size ≤ g ∧ W.heap.size ≤ gS ∧ g ≠ gS ∧ ob C' ≠ some g ∧ ob C' ≠ some gS ∧ Below W.heap.size W wc
section
variable {W w1 : World} {f : Fn} {fn c' : Nat} {C' : Option Addr}
theorem mendCut1 (HO : Own w1 W.heap.size 43 5 C' fn c' (f.code.flatMap insVals)) (HB : Below W.heap.size W w1) :
    MendCut W f fn (.pointer (some ⟨w1.heap.size + 1, 0, none⟩)) ((w1.alloc (.cells (madeCells #[.bool false] fn) 4)).alloc (.cells #[.slice C' fn c', .slice (some ⟨w1.heap.size, 0, none⟩) fn fn] 39)) := by
  have h1 := Blk.new (w1.alloc (.cells (madeCells #[.bool false] fn) 4)) 39 #[.slice C' fn c', .slice (some ⟨w1.heap.size, 0, none⟩) fn fn]
  rw [World.size_alloc] at h1
  have := HB.size
  exact ⟨_, C', c', w1.heap.size, rfl, h1, (HO.alloc _).alloc _, (Blk.new _ _ _).alloc _, by omega, by omega, by omega, HO.ne_ge (by omega), HO.ne_ge (by omega), (HB.alloc (by omega) _).alloc (by simp; omega) _⟩
theorem mendCut2 (HO : Own w1 W.heap.size 43 5 C' fn c' (f.code.flatMap insVals)) (HB : Below W.heap.size W w1) :
    MendCut W f fn (.pointer (some ⟨w1.heap.size, 0, none⟩)) ((w1.alloc (.cells #[.slice C' fn c', .slice (some ⟨w1.heap.size + 1, 0, none⟩) fn fn] 39)).alloc (.cells (madeCells #[.bool false] fn) 4)) := by
  have h1 := Blk.new (w1.alloc (.cells #[.slice C' fn c', .slice (some ⟨w1.heap.size + 1, 0, none⟩) fn fn] 39)) 4 (madeCells #[.bool false] fn)
  rw [World.size_alloc] at h1
  have := HB.size
  exact ⟨_, C', c', w1.heap.size + 1, rfl, (Blk.new _ _ _).alloc _, (HO.alloc _).alloc _, h1, by omega, by omega, by omega, HO.ne_ge (by omega), HO.ne_ge (by omega), (HB.alloc (by omega) _).alloc (by simp; omega) _⟩
theorem mendCut3 {X : World} (hX : Blk X W.heap.size 4 (madeCells #[.bool false] fn)) (hXs : X.heap.size = W.heap.size + 1) (hXb : Below W.heap.size W X) (HO : Own w1 X.heap.size 43 5 C' fn c' (f.code.flatMap insVals)) (HB : Below X.heap.size X w1) :
    MendCut W f fn (.pointer (some ⟨w1.heap.size, 0, none⟩)) (w1.alloc (.cells #[.slice C' fn c', .slice (some ⟨W.heap.size, 0, none⟩) fn fn] 39)) := by
  have := HB.size
  exact ⟨_, C', c', W.heap.size, rfl, Blk.new _ _ _, (HO.alloc _).base_le (by omega), (hX.below HB hX.lt).alloc _, by omega, by omega, by omega, HO.ne_ge (by omega), HO.ne_lt' (by omega), (hXb.trans (HB.mono (by omega))).alloc (by omega) _⟩
theorem mendCut4 {X : World} {g gS : Nat} {x y : Value} (hX : Blk X gS 4 (madeCells #[.bool false] fn)) (hX2 : Blk X g 39 #[x, y]) (hne : g ≠ gS) (hg : W.heap.size ≤ g) (hg' : W.heap.size ≤ gS) (hXb : Below W.heap.size W X) (HO : Own w1 X.heap.size 43 5 C' fn c' (f.code.flatMap insVals)) (HB : Below X.heap.size X w1) :
    MendCut W f fn (.pointer (some ⟨g, 0, none⟩)) ((w1.setCell ⟨g, 0, none⟩ (.slice C' fn c')).setCell ⟨g, 1, none⟩ (.slice (some ⟨gS, 0, none⟩) fn fn)) := by
  have := HB.size
  have l1 := hX.lt
  have l2 := hX2.lt
  have h2 := ((hX2.below HB l2).set_ 0 (.slice C' fn c')).set_ 1 (.slice (some ⟨gS, 0, none⟩) fn fn)
  have hn := HO.ne_lt (g := g) (by omega)
  exact ⟨_, C', c', gS, rfl, h2, ((HO.setCell _ _ hn).setCell _ _ hn).base_le (Nat.le_trans hg (Nat.le_of_lt l2)), ((hX.below HB l1).far (fun e => hne e.symm) _).far (fun e => hne e.symm) _, hg, hg', hne, HO.ne_lt' (by omega), HO.ne_lt' (by omega), ((hXb.trans (HB.mono (by have := hXb.size; omega))).setCell hg _).setCell hg _⟩
theorem mendCut5 {X : World} {x y : Value} (hX2 : Blk X W.heap.size 39 #[x, y]) (hXs : X.heap.size = W.heap.size + 1) (hXb : Below W.heap.size W X) (HO : Own w1 X.heap.size 43 5 C' fn c' (f.code.flatMap insVals)) (HB : Below X.heap.size X w1) :
    MendCut W f fn (.pointer (some ⟨W.heap.size, 0, none⟩)) (((w1.setCell ⟨W.heap.size, 0, none⟩ (.slice C' fn c')).setCell ⟨W.heap.size, 1, none⟩ (.slice (some ⟨w1.heap.size, 0, none⟩) fn fn)).alloc (.cells (madeCells #[.bool false] fn) 4)) := by
  have := HB.size
  have l2 := hX2.lt
  have h2 := ((hX2.below HB l2).set_ 0 (.slice C' fn c')).set_ 1 (.slice (some ⟨w1.heap.size, 0, none⟩) fn fn)
  have hn := HO.ne_lt (g := W.heap.size) (by omega)
  have hs : ((w1.setCell ⟨W.heap.size, 0, none⟩ (.slice C' fn c')).setCell ⟨W.heap.size, 1, none⟩ (.slice (some ⟨w1.heap.size, 0, none⟩) fn fn)).heap.size = w1.heap.size := by simp [World.setCell]
  have h3 := Blk.new ((w1.setCell ⟨W.heap.size, 0, none⟩ (.slice C' fn c')).setCell ⟨W.heap.size, 1, none⟩ (.slice (some ⟨w1.heap.size, 0, none⟩) fn fn)) 4 (madeCells #[.bool false] fn)
  rw [hs] at h3
  exact ⟨_, C', c', w1.heap.size, rfl, h2.alloc _, (((HO.setCell _ _ hn).setCell _ _ hn).alloc _).base_le (by omega), h3, Nat.le_refl _, by omega, by omega, HO.ne_lt' (by omega), HO.ne_ge (by omega), (((hXb.trans (HB.mono (by omega))).setCell (Nat.le_refl _) _).setCell (Nat.le_refl _) _).alloc (by rw [hs]; omega) _⟩
theorem size1 (W : World) (o : Obj) : (W.alloc o).drew.heap.size = W.heap.size + 1 := by simp
theorem blk1 (W : World) (t : TypeId) (cs : Array Value) : Blk (W.alloc (.cells cs t)).drew W.heap.size t cs := Blk.new W t cs
theorem bel1 (W : World) (o : Obj) : Below W.heap.size W (W.alloc o).drew := ((Below.refl _ _).alloc (Nat.le_refl _) _).drew
end
/-- What stands while the places of one function are gone through. -/
structure Mid (W wq : World) (bx : Nat) (a : FnA) (f : Fn) (g gS : Nat) (C' : Option Addr) (fn c' : Nat) : Prop where
  tab : Tab wq
  low : Below W.heap.size W wq
  fnok : FnOk wq W.heap.size a f
  box : Blk wq bx 39 #[.slice a.C a.n a.c, .slice a.S a.m a.d]
  blk : Blk wq g 39 #[.slice C' fn c', .slice (some ⟨gS, 0, none⟩) fn fn]
  own : Own wq W.heap.size 43 5 C' fn c' (f.code.flatMap insVals)
  hbx : bx < W.heap.size
  hg : W.heap.size ≤ g
  hgS : W.heap.size ≤ gS
  hne : g ≠ gS
  hCg : ob C' ≠ some g
  hCS : ob C' ≠ some gS
section
variable {W wq w1 : World} {bx : Nat} {a : FnA} {f : Fn} {g gS : Nat} {C' : Option Addr} {fn c' : Nat}
theorem Mid.grow (M : Mid W wq bx a f g gS C' fn c') (h : wq.grownBy w1 (some gS)) : Mid W w1 bx a f g gS C' fn c' := by
  have hb : Below W.heap.size wq w1 := (Below.refl _ _).grown h M.low.size (fun k hk => by injection hk with hk; rw [← hk]; exact M.hgS)
  have hp : 0 < W.heap.size := Nat.lt_of_le_of_lt (Nat.zero_le _) M.hbx
  exact ⟨M.tab.keep hb hp, M.low.trans hb, M.fnok.below hb, M.box.below hb M.hbx, M.blk.grown h (fun e => M.hne (by injection e)), M.own.kept h (.inr M.hCS), M.hbx, M.hg, M.hgS, M.hne, M.hCg, M.hCS⟩
theorem Mid.call (M : Mid W wq bx a f g gS C' fn c') (h : Below wq.heap.size wq w1) : Mid W w1 bx a f g gS C' fn c' := M.grow (grown_below h _)
theorem Mid.ok (M : Mid W wq bx a f g gS C' fn c') : FnOk wq wq.heap.size a f := M.fnok.more M.low.size
end
/-- The places of block gS, of which j are done. -/
def Row4 (w : World) (gS : Nat) (xs : List Value) : Prop := Blk w gS 4 xs.toArray
section
variable {w w1 : World} {gS : Nat} {f : Fn}
theorem Row4.yes {j : Nat} (h : Row4 w gS (boolVals (mendRow f j))) (hw : waitsAt f j = true) : Row4 (w.setCell ⟨gS, j, none⟩ (.bool true)) gS (boolVals (mendRow f (j + 1))) := by
  have := Blk.set_ h j (.bool true)
  rw [List.setIfInBounds_toArray, mendRow_yes f j hw] at this
  exact this
theorem Row4.no {j : Nat} (h : Row4 w gS (boolVals (mendRow f j))) (hw : waitsAt f j = false) : Row4 w gS (boolVals (mendRow f (j + 1))) := by
  rw [mendRow_no f j hw]; exact h
end
section
variable {w wr W wz w1 : World} {bx k cG : Nat} {a a' : FnA} {f f' : Fn} {g gS : Nat} {C' G A' : Option Addr} {fn c' c2 : Nat} {al : List FnA} {gs : List Fn} {o : Obj}
/-- What stands behind the places of one function. -/
theorem mendEnd (HG1 : Blk wr (w.heap.size + 1) 24 #[.slice G k cG]) (HG2 : Own wr (w.heap.size + 1 + 1) 39 2 G k cG (al.flatMap fnaVals)) (HG3 : FnsAt wr (Off wr (w.heap.size + 1) G) al gs) (HG4 : Below w.heap.size w wr)
    (HWB : Below wr.heap.size wr W) (hcl : f.code.length = fn) (hok : ∀ i ∈ f.code, InsOk i) (hfn : fn ≤ 100) (M : Mid W wz bx a f g gS C' fn c') (R : Row4 wz gS (boolVals (mendRow f fn))) :
    Blk wz (w.heap.size + 1) 24 #[.slice G k cG] ∧ Own wz (w.heap.size + 1 + 1) 39 2 G k cG (al.flatMap fnaVals) ∧ FnsAt wz (Off wz (w.heap.size + 1) G) al gs ∧ FnS wz (Off wz (w.heap.size + 1) G) ⟨C', fn, c', some ⟨gS, 0, none⟩, fn, fn⟩ (mendF f) ∧ Below w.heap.size w wz := by
  have hl : Below wr.heap.size wr wz := HWB.trans (M.low.mono HWB.size)
  have hoff : ∀ b, W.heap.size ≤ b → b < wz.heap.size → Off wz (w.heap.size + 1) G b := fun b h1 h2 => by
    have := HG1.lt
    have := HWB.size
    refine ⟨h2, by omega, fun e => ?_⟩
    have := (HG2.lt b e).2
    omega
  have hmx : fn ≤ maxLen := by unfold maxLen; omega
  refine ⟨HG1.below hl HG1.lt, HG2.kept (grown_below hl none) ?_, HG3.below hl, ⟨hcl.symm, ?_, ?_, ?_, hmx, hmx, hok⟩, HG4.trans (hl.mono HG4.size)⟩
  · cases G with
    | none => exact .inl rfl
    | some q => right; intro h; cases h
  · show fn = (mendSafe f).length
    rw [← hcl]; simp [mendSafe]
  · exact M.own.rowS.mono fun b hb => hoff b hb.1 hb.2
  · have h := Blk.rowS R
    rw [← hcl, mendRow_all] at h
    exact h.mono fun b hb => by subst hb; exact hoff b M.hgS (Blk.lt R)
theorem mendPush {g0 : Nat} (hg0 : w.heap.size ≤ g0) (h1 : Blk wz g0 24 #[.slice G k cG]) (h2 : Own wz (g0 + 1) 39 2 G k cG (al.flatMap fnaVals)) (h3 : FnsAt wz (Off wz g0 G) al gs) (h4 : FnS wz (Off wz g0 G) a' f') (h5 : Below w.heap.size w wz)
    (hk : gs.length = k) (hown : Own w1 (g0 + 1) 39 2 A' (k + 1) c2 (al.flatMap fnaVals ++ fnaVals a')) (hg : (wz.alloc o).grownBy w1 (ob G)) (hat : ob A' = ob G ∨ ob A' = some (wz.alloc o).heap.size) :
    MendInv w g0 (gs ++ [f']) (w1.setCell ⟨g0, 0, none⟩ (.slice A' (k + 1) c2)) := by
  refine ⟨A', c2, al ++ [a'], ?_, ?_, (h3.push h4 hg hat).store 0 _, (below_append h5 h2 (by omega) h5.size hg).setCell (show _ ≤ g0 by omega) _⟩
  · have := (after_append h1 hg h2 (by omega)).1.set_ 0 (.slice A' (k + 1) c2)
    rw [List.length_append, hk]
    simpa using this
  · rw [List.length_append, hk, List.flatMap_append]
    simpa using hown.setCell ⟨g0, 0, none⟩ (.slice A' (k + 1) c2) (hown.ne_lt (by simp))
theorem mendDone {g0 B : Nat} {G : Option Addr} {cG : Nat} {al : List FnA} (hB : B ≤ g0) (h2 : Own wr (g0 + 1) 39 2 G k cG (al.flatMap fnaVals)) (h3 : FnsAt wr (Off wr g0 G) al gs) (v : Value) :
    FnsNew (wr.setCell ⟨g0, 0, none⟩ v) B G gs :=
  ⟨al, (h3.store 0 v).mono fun _ hb => ⟨by have := hb.2.1; omega, hb.1⟩, (h2.setCell ⟨g0, 0, none⟩ v (h2.ne_lt (by simp))).rowS.mono fun _ hb => ⟨by omega, hb.2⟩⟩
end
theorem mendP_len (fs : List Fn) (k : Nat) (h : k ≤ fs.length) : (mendP (fs.take k)).length = k := by simp [mendP]; omega
theorem mendP_snoc (fs : List Fn) (k : Nat) (h : k < fs.length) {f : Fn} (e : fs[k] = f) : mendP (fs.take (k + 1)) = mendP (fs.take k) ++ [mendF f] := by
  subst e
  simp only [mendP]
  rw [List.take_succ_eq_append_getElem h, List.map_append]
  rfl
theorem cells2 {w : World} {x y : Value} {ad : Addr} (h0 : w.cell? (ad.add 0) = some x) (h1 : w.cell? (ad.add 1) = some y) : ∀ j u, [x, y][j]? = some u → w.cell? (ad.add j) = some u := by
  intro j u hu
  match j, hu with
  | 0, hu => simp at hu; rw [← hu]; exact h0
  | 1, hu => simp at hu; rw [← hu]; exact h1
theorem cut_ {p q : Prop} (h : p) (k : p → q) : q := k h
end Go.Proofs.YtfgaonkoaolffaaDoor

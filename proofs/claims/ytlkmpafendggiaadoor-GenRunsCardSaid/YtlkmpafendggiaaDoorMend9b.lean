/-
  Chapter 9: contract of valid.Mend: the result lies in memory as the mended program. Conditions: the table is laid, the program lies in memory and is light.
-/
import Derived.Test.YtlkmpafendggiaaDoorMend9
import Derived.Test.YtlkmpafendggiaaDoorBuild
import Derived.Deep.OwnRows
import Derived.Laws.CopyOwn
namespace Go.Proofs.YtlkmpafendggiaaDoor
open Go.RowKit
theorem Tryd.infoBool : (Tryd.prog.info? 4).map (fun i => (i.zero, i.size, i.bytes)) = some (some (.bool false), 1, 1) := by kernel_rfl
theorem Tryd.infoFn : (Tryd.prog.info? 41).map (fun i => (i.zero, i.size, i.bytes)) = some (some (.agg #[.slice none 0 0, .slice none 0 0]), 2, 48) := by kernel_rfl
/-- What Mend's outer loop has done behind k functions. -/
def MendInv (w : World) (g : Nat) (gs : List Fn) (wr : World) : Prop :=
  ∃ (G : Option Addr) (cG : Nat) (al : List FnA), Blk wr g 32 #[.slice G gs.length cG] ∧ Own wr (g + 1) 41 2 G gs.length cG (al.flatMap fnaVals) ∧ FnsAt wr (Off wr g G) al gs ∧ Below w.heap.size w wr
theorem MendInv.start (w W : World) (hb : Below w.heap.size w W) : MendInv w W.heap.size [] (W.alloc (.cells #[.slice none 0 0] 32)) :=
  ⟨none, 0, [], Blk.new _ _ _, Own.nil _ _ _ _, FnsAt.nil _ _, hb.alloc hb.size _⟩
/-- What Mend's drawn region makes: a function with cloned code and places of which none is safe. -/
def MendCut (W : World) (f : Fn) (fn : Nat) (v5 : Value) (wc : World) : Prop :=
  ∃ (g : Nat) (C' : Option Addr) (c' gS : Nat), v5 = .pointer (some ⟨g, 0, none⟩) ∧ Blk wc g 41 #[.slice C' fn c', .slice (some ⟨gS, 0, none⟩) fn fn] ∧ Own wc W.heap.size 26 5 C' fn c' (f.code.flatMap insVals) ∧
    Blk wc gS 4 (madeCells #[.bool false] fn) ∧ W.heap.size ≤ g ∧ W.heap.size ≤ gS ∧ g ≠ gS ∧ ob C' ≠ some g ∧ ob C' ≠ some gS ∧ Below W.heap.size W wc
section
variable {W w1 : World} {f : Fn} {fn c' : Nat} {C' : Option Addr}
theorem mendCut1 (HO : Own w1 W.heap.size 26 5 C' fn c' (f.code.flatMap insVals)) (HB : Below W.heap.size W w1) :
    MendCut W f fn (.pointer (some ⟨w1.heap.size + 1, 0, none⟩)) ((w1.alloc (.cells (madeCells #[.bool false] fn) 4)).alloc (.cells #[.slice C' fn c', .slice (some ⟨w1.heap.size, 0, none⟩) fn fn] 41)) := by
  have h1 := Blk.new (w1.alloc (.cells (madeCells #[.bool false] fn) 4)) 41 #[.slice C' fn c', .slice (some ⟨w1.heap.size, 0, none⟩) fn fn]
  rw [World.size_alloc] at h1
  have := HB.size
  exact ⟨_, C', c', w1.heap.size, rfl, h1, (HO.alloc _).alloc _, (Blk.new _ _ _).alloc _, by omega, by omega, by omega, HO.ne_ge (by omega), HO.ne_ge (by omega), (HB.alloc (by omega) _).alloc (by simp; omega) _⟩
theorem mendCut2 (HO : Own w1 W.heap.size 26 5 C' fn c' (f.code.flatMap insVals)) (HB : Below W.heap.size W w1) :
    MendCut W f fn (.pointer (some ⟨w1.heap.size, 0, none⟩)) ((w1.alloc (.cells #[.slice C' fn c', .slice (some ⟨w1.heap.size + 1, 0, none⟩) fn fn] 41)).alloc (.cells (madeCells #[.bool false] fn) 4)) := by
  have h1 := Blk.new (w1.alloc (.cells #[.slice C' fn c', .slice (some ⟨w1.heap.size + 1, 0, none⟩) fn fn] 41)) 4 (madeCells #[.bool false] fn)
  rw [World.size_alloc] at h1
  have := HB.size
  exact ⟨_, C', c', w1.heap.size + 1, rfl, (Blk.new _ _ _).alloc _, (HO.alloc _).alloc _, h1, by omega, by omega, by omega, HO.ne_ge (by omega), HO.ne_ge (by omega), (HB.alloc (by omega) _).alloc (by simp; omega) _⟩
theorem mendCut3 {X : World} (hX : Blk X W.heap.size 4 (madeCells #[.bool false] fn)) (hXs : X.heap.size = W.heap.size + 1) (hXb : Below W.heap.size W X) (HO : Own w1 X.heap.size 26 5 C' fn c' (f.code.flatMap insVals)) (HB : Below X.heap.size X w1) :
    MendCut W f fn (.pointer (some ⟨w1.heap.size, 0, none⟩)) (w1.alloc (.cells #[.slice C' fn c', .slice (some ⟨W.heap.size, 0, none⟩) fn fn] 41)) := by
  have := HB.size
  exact ⟨_, C', c', W.heap.size, rfl, Blk.new _ _ _, (HO.alloc _).base_le (by omega), (hX.below HB hX.lt).alloc _, by omega, by omega, by omega, HO.ne_ge (by omega), HO.ne_lt' (by omega), (hXb.trans (HB.mono (by omega))).alloc (by omega) _⟩
theorem mendCut4 {X : World} {g gS : Nat} {x y : Value} (hX : Blk X gS 4 (madeCells #[.bool false] fn)) (hX2 : Blk X g 41 #[x, y]) (hne : g ≠ gS) (hg : W.heap.size ≤ g) (hg' : W.heap.size ≤ gS) (hXb : Below W.heap.size W X) (HO : Own w1 X.heap.size 26 5 C' fn c' (f.code.flatMap insVals)) (HB : Below X.heap.size X w1) :
    MendCut W f fn (.pointer (some ⟨g, 0, none⟩)) ((w1.setCell ⟨g, 0, none⟩ (.slice C' fn c')).setCell ⟨g, 1, none⟩ (.slice (some ⟨gS, 0, none⟩) fn fn)) := by
  have := HB.size
  have l1 := hX.lt
  have l2 := hX2.lt
  have h2 := ((hX2.below HB l2).set_ 0 (.slice C' fn c')).set_ 1 (.slice (some ⟨gS, 0, none⟩) fn fn)
  have hn := HO.ne_lt (g := g) (by omega)
  exact ⟨_, C', c', gS, rfl, h2, ((HO.setCell _ _ hn).setCell _ _ hn).base_le (Nat.le_trans hg (Nat.le_of_lt l2)), ((hX.below HB l1).far (fun e => hne e.symm) _).far (fun e => hne e.symm) _, hg, hg', hne, HO.ne_lt' (by omega), HO.ne_lt' (by omega), ((hXb.trans (HB.mono (by have := hXb.size; omega))).setCell hg _).setCell hg _⟩
theorem mendCut5 {X : World} {x y : Value} (hX2 : Blk X W.heap.size 41 #[x, y]) (hXs : X.heap.size = W.heap.size + 1) (hXb : Below W.heap.size W X) (HO : Own w1 X.heap.size 26 5 C' fn c' (f.code.flatMap insVals)) (HB : Below X.heap.size X w1) :
    MendCut W f fn (.pointer (some ⟨W.heap.size, 0, none⟩)) (((w1.setCell ⟨W.heap.size, 0, none⟩ (.slice C' fn c')).setCell ⟨W.heap.size, 1, none⟩ (.slice (some ⟨w1.heap.size, 0, none⟩) fn fn)).alloc (.cells (madeCells #[.bool false] fn) 4)) := by
  have := HB.size
  have l2 := hX2.lt
  have h2 := ((hX2.below HB l2).set_ 0 (.slice C' fn c')).set_ 1 (.slice (some ⟨w1.heap.size, 0, none⟩) fn fn)
  have hn := HO.ne_lt (g := W.heap.size) (by omega)
  have hs : ((w1.setCell ⟨W.heap.size, 0, none⟩ (.slice C' fn c')).setCell ⟨W.heap.size, 1, none⟩ (.slice (some ⟨w1.heap.size, 0, none⟩) fn fn)).heap.size = w1.heap.size := by simp [World.setCell]
  have h3 := Blk.new ((w1.setCell ⟨W.heap.size, 0, none⟩ (.slice C' fn c')).setCell ⟨W.heap.size, 1, none⟩ (.slice (some ⟨w1.heap.size, 0, none⟩) fn fn)) 4 (madeCells #[.bool false] fn)
  rw [hs] at h3
  exact ⟨_, C', c', w1.heap.size, rfl, h2.alloc _, (((HO.setCell _ _ hn).setCell _ _ hn).alloc _).base_le (by omega), h3, Nat.le_refl _, by omega, by omega, HO.ne_lt' (by omega), HO.ne_ge (by omega), (((hXb.trans (HB.mono (by omega))).setCell (Nat.le_refl _) _).setCell (Nat.le_refl _) _).alloc (by rw [hs]; omega) _⟩
theorem size1 (W : World) (o : Obj) : (W.alloc o).drew.heap.size = W.heap.size + 1 := by simp
theorem blk1 (W : World) (t : TypeId) (cs : Array Value) : Blk (W.alloc (.cells cs t)).drew W.heap.size t cs := Blk.new W t cs
theorem bel1 (W : World) (o : Obj) : Below W.heap.size W (W.alloc o).drew := ((Below.refl _ _).alloc (Nat.le_refl _) _).drew
end
/-- What stands while the places of one function are gone through. -/
structure Mid (W wq : World) (bx : Nat) (a : FnA) (f : Fn) (g gS : Nat) (C' : Option Addr) (fn c' : Nat) : Prop where
  tab : Tab wq
  low : Below W.heap.size W wq
  fnok : FnOk wq W.heap.size a f
  box : Blk wq bx 41 #[.slice a.C a.n a.c, .slice a.S a.m a.d]
  blk : Blk wq g 41 #[.slice C' fn c', .slice (some ⟨gS, 0, none⟩) fn fn]
  own : Own wq W.heap.size 26 5 C' fn c' (f.code.flatMap insVals)
  hbx : bx < W.heap.size
  hg : W.heap.size ≤ g
  hgS : W.heap.size ≤ gS
  hne : g ≠ gS
  hCg : ob C' ≠ some g
  hCS : ob C' ≠ some gS
section
variable {W wq w1 : World} {bx : Nat} {a : FnA} {f : Fn} {g gS : Nat} {C' : Option Addr} {fn c' : Nat}
theorem Mid.grow (M : Mid W wq bx a f g gS C' fn c') (h : wq.grownBy w1 (some gS)) : Mid W w1 bx a f g gS C' fn c' := by
  have hb : Below W.heap.size wq w1 := (Below.refl _ _).grown h M.low.size (fun k hk => by injection hk with hk; rw [← hk]; exact M.hgS)
  have hp : 0 < W.heap.size := Nat.lt_of_le_of_lt (Nat.zero_le _) M.hbx
  exact ⟨M.tab.keep hb hp, M.low.trans hb, M.fnok.below hb, M.box.below hb M.hbx, M.blk.grown h (fun e => M.hne (by injection e)), M.own.kept h (.inr M.hCS), M.hbx, M.hg, M.hgS, M.hne, M.hCg, M.hCS⟩
theorem Mid.call (M : Mid W wq bx a f g gS C' fn c') (h : Below wq.heap.size wq w1) : Mid W w1 bx a f g gS C' fn c' := M.grow (grown_below h _)
theorem Mid.ok (M : Mid W wq bx a f g gS C' fn c') : FnOk wq wq.heap.size a f := M.fnok.more M.low.size
end
/-- The places of block gS, of which j are done. -/
def Row4 (w : World) (gS : Nat) (xs : List Value) : Prop := Blk w gS 4 xs.toArray
section
variable {w w1 : World} {gS : Nat} {f : Fn}
theorem Row4.yes {j : Nat} (h : Row4 w gS (boolVals (mendRow f j))) (hw : waitsAt f j = true) : Row4 (w.setCell ⟨gS, j, none⟩ (.bool true)) gS (boolVals (mendRow f (j + 1))) := by
  have := Blk.set_ h j (.bool true)
  rw [List.setIfInBounds_toArray, mendRow_yes f j hw] at this
  exact this
theorem Row4.no {j : Nat} (h : Row4 w gS (boolVals (mendRow f j))) (hw : waitsAt f j = false) : Row4 w gS (boolVals (mendRow f (j + 1))) := by
  rw [mendRow_no f j hw]; exact h
end
theorem mend1_at (a : FnA) (f : Fn) (g k : Nat) (z : Int) (hz : z = k) (hk : k < f.code.length) (x : Bool) (hx : Hid (opWaits (f.code.getD k noIns).op = x)) (w : World) (hT : Tab w) (hf : FnOk w w.heap.size a f) (hb : w.cell? ⟨g, 0, none⟩ = some (.slice a.C a.n a.c)) :
    Calls Tryd.prog 50 #[.int .i64 z, .pointer (some ⟨g, 0, none⟩)] w fun e w' => e = .returned (.bool x) ∧ Below w.heap.size w w' := by
  subst hz
  have h := mend1_any a f g k hk w hT hf hb
  have hx' := hx.out
  rw [List.getD_eq_getElem?_getD, List.getElem?_eq_getElem hk, Option.getD_some] at hx'
  rw [hx'] at h
  exact h
section
variable {w wr W wz w1 : World} {bx k cG : Nat} {a a' : FnA} {f f' : Fn} {g gS : Nat} {C' G A' : Option Addr} {fn c' c2 : Nat} {al : List FnA} {gs : List Fn} {o : Obj}
/-- What stands behind the places of one function. -/
theorem mendEnd (HG1 : Blk wr (w.heap.size + 1) 32 #[.slice G k cG]) (HG2 : Own wr (w.heap.size + 1 + 1) 41 2 G k cG (al.flatMap fnaVals)) (HG3 : FnsAt wr (Off wr (w.heap.size + 1) G) al gs) (HG4 : Below w.heap.size w wr)
    (HWB : Below wr.heap.size wr W) (hcl : f.code.length = fn) (hok : ∀ i ∈ f.code, InsOk i) (hfn : fn ≤ 100) (M : Mid W wz bx a f g gS C' fn c') (R : Row4 wz gS (boolVals (mendRow f fn))) :
    Blk wz (w.heap.size + 1) 32 #[.slice G k cG] ∧ Own wz (w.heap.size + 1 + 1) 41 2 G k cG (al.flatMap fnaVals) ∧ FnsAt wz (Off wz (w.heap.size + 1) G) al gs ∧ FnS wz (Off wz (w.heap.size + 1) G) ⟨C', fn, c', some ⟨gS, 0, none⟩, fn, fn⟩ (mendF f) ∧ Below w.heap.size w wz := by
  have hl : Below wr.heap.size wr wz := HWB.trans (M.low.mono HWB.size)
  have hoff : ∀ b, W.heap.size ≤ b → b < wz.heap.size → Off wz (w.heap.size + 1) G b := fun b h1 h2 => by
    have := HG1.lt
    have := HWB.size
    refine ⟨h2, by omega, fun e => ?_⟩
    have := (HG2.lt b e).2
    omega
  have hmx : fn ≤ maxLen := by unfold maxLen; omega
  refine ⟨HG1.below hl HG1.lt, HG2.kept (grown_below hl none) ?_, HG3.below hl, ⟨hcl.symm, ?_, ?_, ?_, hmx, hmx, hok⟩, HG4.trans (hl.mono HG4.size)⟩
  · cases G with
    | none => exact .inl rfl
    | some q => right; intro h; cases h
  · show fn = (mendSafe f).length
    rw [← hcl]; simp [mendSafe]
  · exact M.own.rowS.mono fun b hb => hoff b hb.1 hb.2
  · have h := Blk.rowS R
    rw [← hcl, mendRow_all] at h
    exact h.mono fun b hb => by subst hb; exact hoff b M.hgS (Blk.lt R)
theorem mendPush {g0 : Nat} (hg0 : w.heap.size ≤ g0) (h1 : Blk wz g0 32 #[.slice G k cG]) (h2 : Own wz (g0 + 1) 41 2 G k cG (al.flatMap fnaVals)) (h3 : FnsAt wz (Off wz g0 G) al gs) (h4 : FnS wz (Off wz g0 G) a' f') (h5 : Below w.heap.size w wz)
    (hk : gs.length = k) (hown : Own w1 (g0 + 1) 41 2 A' (k + 1) c2 (al.flatMap fnaVals ++ fnaVals a')) (hg : (wz.alloc o).grownBy w1 (ob G)) (hat : ob A' = ob G ∨ ob A' = some (wz.alloc o).heap.size) :
    MendInv w g0 (gs ++ [f']) (w1.setCell ⟨g0, 0, none⟩ (.slice A' (k + 1) c2)) := by
  refine ⟨A', c2, al ++ [a'], ?_, ?_, (h3.push h4 hg hat).store 0 _, (below_append h5 h2 (by omega) h5.size hg).setCell (show _ ≤ g0 by omega) _⟩
  · have := (after_append h1 hg h2 (by omega)).1.set_ 0 (.slice A' (k + 1) c2)
    rw [List.length_append, hk]
    simpa using this
  · rw [List.length_append, hk, List.flatMap_append]
    simpa using hown.setCell ⟨g0, 0, none⟩ (.slice A' (k + 1) c2) (hown.ne_lt (by simp))
theorem mendDone {g0 B : Nat} {G : Option Addr} {cG : Nat} {al : List FnA} (hB : B ≤ g0) (h2 : Own wr (g0 + 1) 41 2 G k cG (al.flatMap fnaVals)) (h3 : FnsAt wr (Off wr g0 G) al gs) (v : Value) :
    FnsNew (wr.setCell ⟨g0, 0, none⟩ v) B G gs :=
  ⟨al, (h3.store 0 v).mono fun _ hb => ⟨by have := hb.2.1; omega, hb.1⟩, (h2.setCell ⟨g0, 0, none⟩ v (h2.ne_lt (by simp))).rowS.mono fun _ hb => ⟨by omega, hb.2⟩⟩
end
theorem mendP_len (fs : List Fn) (k : Nat) (h : k ≤ fs.length) : (mendP (fs.take k)).length = k := by simp [mendP]; omega
theorem mendP_snoc (fs : List Fn) (k : Nat) (h : k < fs.length) {f : Fn} (e : fs[k] = f) : mendP (fs.take (k + 1)) = mendP (fs.take k) ++ [mendF f] := by
  subst e
  simp only [mendP]
  rw [List.take_succ_eq_append_getElem h, List.map_append]
  rfl
theorem cells2 {w : World} {x y : Value} {ad : Addr} (h0 : w.cell? (ad.add 0) = some x) (h1 : w.cell? (ad.add 1) = some y) : ∀ j u, [x, y][j]? = some u → w.cell? (ad.add j) = some u := by
  intro j u hu
  match j, hu with
  | 0, hu => simp at hu; rw [← hu]; exact h0
  | 1, hu => simp at hu; rw [← hu]; exact h1
theorem cut_ {p q : Prop} (h : p) (k : p → q) : q := k h
set_option maxHeartbeats 4000000 in
set_option maxRecDepth 100000 in
theorem mend_own (A : Option Addr) (c : Nat) (fs : List Fn) (w : World) (hT : Tab w) (hm : fs.length ≤ 100) (hlight : ∀ f ∈ fs, f.code.length ≤ 100) (hf : FnsOk w w.heap.size A fs) :
    Calls Tryd.prog 27 #[.agg #[.slice A fs.length c]] w fun e w' => ∃ A' c', e = .returned (.agg #[.slice A' fs.length c']) ∧ FnsNew w' w.heap.size A' (mendP fs) ∧ Below w.heap.size w w' := by
  generalize hn : fs.length = n at *
  obtain ⟨i0, hi, hz0, hz1, hz2⟩ := info_parts Tryd.infoFn
  have HI0 := Lib.hid hi
  have HZ0 := Lib.hid hz0
  have HZ1 := Lib.hid hz1
  have HZ2 := Lib.hid hz2
  clear hi hz0 hz1 hz2
  have HN := Lib.hid hn
  have HT := Lib.hid hT
  have HF := Lib.hid hf
  have HL := Lib.hid hlight
  have hinv := MendInv.start w (w.alloc (.cells #[.slice A n c] 32)) ((Below.refl _ _).alloc (Nat.le_refl _) _)
  have hs1 : (w.alloc (.cells #[.slice A n c] 32)).heap.size = w.heap.size + 1 := by simp
  rw [hs1] at hinv
  have HI := Lib.hid hinv
  clear hn hT hf hlight hs1 hinv
  go_enter Tryd.func27, Tryd.ntmps27
  go_wp2_with fail
  go_loopw [11] (fun vi wr => ∃ k : Nat, k ≤ n ∧ vi = .int .i64 k ∧ MendInv w (w.heap.size + 1) (mendP (fs.take k)) wr) (fun vi _ => n - (intOf vi).toNat)
  case atStart => exact ⟨0, by omega, rfl, by rw [List.take_zero]; exact HI.out⟩
  case round =>
    obtain ⟨k, hk, rfl, hI⟩ := hrel
    clear HI
    obtain ⟨G, cG, al, hG1, hG2, hG3, hG4⟩ := hI
    rw [mendP_len fs k (by rw [HN.out]; exact hk)] at hG1 hG2
    have HG1 := Lib.hid hG1
    have HG2 := Lib.hid hG2
    have HG3 := Lib.hid hG3
    have HG4 := Lib.hid hG4
    clear hG1 hG2 hG3 hG4
    by_cases hlt : k < n
    · have hkc : k < fs.length := by rw [HN.out]; exact hlt
      obtain ⟨b, off, a, eA, hbb, c0, c1, hfn⟩ := (HF.out.below HG4.out).at_ k hkc
      subst eA
      have HFN := Lib.hid hfn
      clear hfn
      have HLK : (fs[k]'hkc).code.length ≤ 100 := HL.out _ (List.getElem_mem _)
      generalize hfk : fs[k]'hkc = f at *
      have HFK := Lib.hid hfk
      clear hfk
      obtain ⟨C, fn, fc, S, fm, fd⟩ := a
      simp only at c0 c1
      go_wp2_with fail
      have bF := Blk.new wr 41 #[.slice C fn fc, .slice S fm fd]
      have hWb : Below wr.heap.size wr (wr.alloc (.cells #[.slice C fn fc, .slice S fm fd] 41)) := (Below.refl _ _).alloc (Nat.le_refl _) _
      generalize (wr.alloc (.cells #[.slice C fn fc, .slice S fm fd] 41)) = W at *
      have hwr : w.heap.size ≤ wr.heap.size := HG4.out.size
      have hrow : ∀ w', Below W.heap.size W w' → Row w' w'.heap.size C (f.code.flatMap insVals) := fun w' hb => ((HFN.out.more hwr).step (hWb.trans (hb.mono hWb.size))).2.2.1
      have HR := Lib.hid hrow
      have HBF := Lib.hid bF
      have HWB := Lib.hid hWb
      have f0 : W.cell? ⟨wr.heap.size, 0, none⟩ = some (.slice C fn fc) := bF.cell 0
      have hgF : wr.heap.size < W.heap.size := bF.lt
      have hmk : ∀ w, (Instr.makeSlice 39 (.int .i64 (fn : Int)) (.int .i64 (fn : Int))).run Tryd.prog w = .ok (.slice (some ⟨w.heap.size, 0, none⟩) fn fn) (w.alloc (.cells (madeCells #[.bool false] fn) 4)) := run_make_row' _ _ _ _ Tryd.underlying39 Tryd.infoBool rfl _ _ fn (by have : fn = f.code.length := HFN.out.1; omega) (by have : fn = f.code.length := HFN.out.1; omega)
      have hcl : f.code.length = fn := HFN.out.1.symm
      have HCL := Lib.hid hcl
      have hfn100 : fn ≤ 100 := by omega
      clear hrow bF hWb c0 c1 hcl
      go_cut [5] (fun v5 wc => MendCut W f fn v5 wc)
      case first =>
        go_region_held3 (fun w' => w'.cell? ⟨wr.heap.size, 0, none⟩ = some (.slice C fn fc)) (first | go_keep | (simp (disch := (first | omega | (simp; omega))) [World.cell?_alloc_lt, World.cell?_setCell_far, hc1, f0])) ((go_at_call 49; refine (clone_any C fn fc f.code _ HCL.out hfn100 (HR.out _ (by repeat (first | exact Below.refl _ _ | apply Below.drew | refine Below.alloc ?_ (by simp) _)))).mono ?_; rintro e w1 ⟨C', c', rfl, hown, hb⟩; have HO := Lib.hid hown; have HB := Lib.hid hb; obtain ⟨hc1, hf1⟩ := bcell hb; have hz1 : wr.heap.size < w1.heap.size := Nat.lt_of_lt_of_le (by simp; omega) hb.size; (try (refine cut_ (p := W.heap.size < w1.heap.size) (Nat.lt_of_lt_of_le ?_ hb.size) ?_; (focus (simp; done)); intro hz3; have hz4 : w1.heap.size ≠ W.heap.size := (by omega); have hz5 : W.heap.size ≠ w1.heap.size := (by omega))); clear hown hb))
        · go_wp2_with fail
          go_meet
          case rel => exact mendCut1 (W := W) HO.out ((Below.refl _ _).drew.trans HB.out)
        · go_wp2_with fail
          go_meet
          case rel => exact mendCut2 (W := W) HO.out ((Below.refl _ _).drew.trans HB.out)
        · go_wp2_with fail
          go_meet
          case rel => exact mendCut3 (blk1 _ _ _) (size1 _ _) (bel1 _ _) HO.out HB.out
        · go_wp2_with fail
          go_meet
          case rel =>
            obtain ⟨q1, q2, q3⟩ := blk2 W 4 41 (madeCells #[.bool false] fn) #[.slice none 0 0, .slice none 0 0]
            exact mendCut4 q1 q2 (by omega) (by omega) (by omega) q3 HO.out HB.out
        · go_wp2_with fail
          go_meet
          case rel => exact mendCut5 (blk1 _ _ _) (size1 _ _) (bel1 _ _) HO.out HB.out
        · go_wp2_with fail
          go_meet
          case rel =>
            obtain ⟨q1, q2, q3⟩ := blk2 W 41 4 #[.slice none 0 0, .slice none 0 0] (madeCells #[.bool false] fn)
            exact mendCut4 q2 q1 (by omega) (by omega) (by omega) q3 HO.out HB.out
      case rest =>
        obtain ⟨g, C', c', gS, rfl, m1, m2, m3, m4, m5, m6, m7, m8, m9⟩ := hcut
        have M1 := Lib.hid m1
        have M2 := Lib.hid m2
        have M7 := Lib.hid m7
        have M8 := Lib.hid m8
        have M9 := Lib.hid m9
        have g0 := m1.cell 0
        have g1 := m1.cell 1
        have f1 := (HBF.out.below m9 hgF).cell 1
        simp at g0 g1 f1
        rw [made_list] at m3
        have M3 := Lib.hid (show wc.heap[gS]? = some (.cells (List.replicate fn (Value.bool false)).toArray 4 (0, 0)) from m3)
        have hfm : f.safe.length = fm := HFN.out.2.1.symm
        have hsrc : 0 < (boolVals (f.safe.take fn)).length → ∃ ad, S = some ad ∧ ∀ j v, (boolVals (f.safe.take fn))[j]? = some v → wc.cell? (ad.add j) = some v := by
          intro hp
          have hr : Row wc wc.heap.size S (boolVals f.safe) := ((HFN.out.more hwr).step (HWB.out.trans (m9.mono HWB.out.size))).2.2.2.1
          obtain ⟨ad, e, hc⟩ := hr.adds (by simp [boolVals] at hp ⊢; omega)
          refine ⟨ad, e, fun j v hj => hc j v ?_⟩
          have hjt : j < (boolVals (f.safe.take fn)).length := (List.getElem?_eq_some_iff.1 hj).1
          simp only [boolVals, List.length_map, List.length_take] at hjt
          rw [← hj]
          simp only [boolVals, List.getElem?_map]
          rw [List.getElem?_take_of_lt (by omega)]
        have HS := Lib.hid hsrc
        have hlen : (boolVals (f.safe.take fn)).length = Nat.min fm fn := by
          rw [← hfm]; simp [boolVals, Nat.min_comm]
        have HLEN := Lib.hid hlen
        have hfit : 0 + (boolVals (f.safe.take fn)).length ≤ (List.replicate fn (Value.bool false)).length := by rw [hlen, List.length_replicate, Nat.zero_add]; exact Nat.min_le_right _ _
        have HFIT := Lib.hid hfit
        have HONE := Lib.hid (boolVals_one (f.safe.take fn))
        clear m1 m2 m3 m7 m8 m9 hmk f0 hsrc hlen hfit hfm
        go_wp2_with ((with_reducible show wpList _ _ _ _ _ _); (refine wpList_copy_keep (o := ⟨some 27, _, _, _, _, _⟩) rfl (.tmp 24) (.tmp 26) 39 39 rfl 4 Tryd.underlying39 (by kernel_rfl) (some ⟨gS, 0, none⟩) S fn fn fm fd (by rfl) (by rfl) gS 0 _ 4 M3.out (boolVals (f.safe.take fn)) HLEN.out (fun hp => ⟨rfl, HS.out hp⟩) HFIT.out HONE.out ?_); intro w2 hg2 hk2; have e2 := (M1.out.grown hk2.out (fun e => m6 (by injection e))).cell 1; simp at e2)
        have hM : Mid W w2 wr.heap.size ⟨C, fn, fc, S, fm, fd⟩ f g gS C' fn c' := Mid.grow (wq := wc) ⟨(HT.out.step HG4.out).step (HWB.out.trans (M9.out.mono HWB.out.size)), M9.out, ((HFN.out.more hwr).below (HWB.out.trans (M9.out.mono HWB.out.size))).more HWB.out.size, HBF.out.below M9.out hgF, M1.out, M2.out, hgF, m4, m5, m6, M7.out, M8.out⟩ hk2.out
        have HM := Lib.hid hM
        have hR4 : Row4 w2 gS (boolVals (mendRow f 0)) := by
          have := hg2.out
          rw [← HCL.out] at this
          rw [mendRow_zero] at this
          exact this
        have HR4 := Lib.hid hR4
        have hend : ∀ wz, Mid W wz wr.heap.size ⟨C, fn, fc, S, fm, fd⟩ f g gS C' fn c' → Row4 wz gS (boolVals (mendRow f fn)) → _ := fun wz => mendEnd HG1.out HG2.out HG3.out HG4.out HWB.out HCL.out HFN.out.2.2.2.2.2.2 hfn100
        have HEND := Lib.hid hend
        clear hend
        clear hM hR4 hg2 hk2 M1 M2 M3 M7 M8 M9 HS HLEN HFIT HONE g0 g1 f1 e2 HR HBF
        go_loopw [32] (fun vi wq => ∃ j : Nat, j ≤ fn ∧ vi = .int .i64 j ∧ Mid W wq wr.heap.size ⟨C, fn, fc, S, fm, fd⟩ f g gS C' fn c' ∧ Row4 wq gS (boolVals (mendRow f j))) (fun vi _ => fn - (intOf vi).toNat)
        case atStart => exact ⟨0, by omega, rfl, HM.out, HR4.out⟩
        case round =>
          obtain ⟨j, hj, rfl, hM, hR4⟩ := hrel
          have HM := Lib.hid hM
          have HR4 := Lib.hid hR4
          have q1 := hM.blk.cell 1
          simp at q1
          clear hM hR4
          by_cases hjn : j < fn
          · have hjc : j < f.code.length := by rw [HCL.out]; exact hjn
            obtain ⟨z0, r0⟩ : ∃ z0, wr.cell? ⟨gS, j, none⟩ = some (.bool z0) := by
              rw [HR4.out.cell j]
              exact ⟨(mendRow f j)[j]'(by simp [mendRow]; exact hjc), by simp [boolVals, mendRow, hjc]⟩
            have R0 := Lib.hid r0
            clear r0
            have fin : ∀ wz, Row4 wz gS (boolVals (mendRow f j)) → wz.cell? ⟨gS, j, none⟩ = some (.bool z0) := fun wz hz => by rw [hz.cell j, ← HR4.out.cell j]; exact R0.out
            have FIN := Lib.hid fin
            clear fin R0
            cases h1 : opWaits (f.code.getD j noIns).op
            · have H1 := Lib.hid h1
              clear h1
              rcases Nat.eq_zero_or_pos j with rfl | hj0
              · have hw : waitsAt f 0 = false := by simp only [waitsAt, H1.out]; rfl
                have HW := Lib.hid hw
                clear hw
                go_wp2_with fail
                refine (mend1_at ⟨C, fn, fc, S, fm, fd⟩ f _ 0 _ rfl hjc false H1 _ HM.out.tab HM.out.ok (HM.out.box.cell 0)).mono ?_
                rintro e w3 ⟨rfl, hb3⟩
                have HM3 := Lib.hid (HM.out.call hb3)
                have HR3 := Lib.hid (show Row4 w3 gS (boolVals (mendRow f 0)) from Blk.below HR4.out hb3 (Blk.lt HR4.out))
                clear hb3 q1
                go_wp2_with fail
                go_roundw
                case rel => exact ⟨1, by omega, by go_num, HM3.out, HR3.out.no HW.out⟩
                case measure => simp [intOf]; omega
              · cases h2 : opWaits (f.code.getD (j - 1) noIns).op
                · have H2 := Lib.hid h2
                  have hw : waitsAt f j = false := by simp only [waitsAt, H1.out, H2.out]; simp
                  have HW := Lib.hid hw
                  clear hw h2
                  go_wp2_with fail
                  refine (mend1_at ⟨C, fn, fc, S, fm, fd⟩ f _ j _ rfl hjc false H1 _ HM.out.tab HM.out.ok (HM.out.box.cell 0)).mono ?_
                  rintro e w3 ⟨rfl, hb3⟩
                  have HM3 := Lib.hid (HM.out.call hb3)
                  have HR3 := Lib.hid (show Row4 w3 gS (boolVals (mendRow f j)) from Blk.below HR4.out hb3 (Blk.lt HR4.out))
                  clear hb3 q1
                  go_wp2_with fail
                  refine (mend1_at ⟨C, fn, fc, S, fm, fd⟩ f _ (j - 1) _ (by omega) (by omega) false H2 _ HM3.out.tab HM3.out.ok (HM3.out.box.cell 0)).mono ?_
                  rintro e w4 ⟨rfl, hb4⟩
                  have HM4 := Lib.hid (HM3.out.call hb4)
                  have HR5 := Lib.hid (show Row4 w4 gS (boolVals (mendRow f j)) from Blk.below HR3.out hb4 (Blk.lt HR3.out))
                  clear hb4
                  go_wp2_with fail
                  go_roundw
                  case rel => exact ⟨j + 1, by omega, by go_num, HM4.out, HR5.out.no HW.out⟩
                  case measure => simp [intOf]; omega
                · have H2 := Lib.hid h2
                  have hw : waitsAt f j = true := by simp only [waitsAt, H1.out, H2.out]; simpa using (show 0 < j from hj0)
                  have HW := Lib.hid hw
                  clear hw h2
                  go_wp2_with fail
                  refine (mend1_at ⟨C, fn, fc, S, fm, fd⟩ f _ j _ rfl hjc false H1 _ HM.out.tab HM.out.ok (HM.out.box.cell 0)).mono ?_
                  rintro e w3 ⟨rfl, hb3⟩
                  have HM3 := Lib.hid (HM.out.call hb3)
                  have HR3 := Lib.hid (show Row4 w3 gS (boolVals (mendRow f j)) from Blk.below HR4.out hb3 (Blk.lt HR4.out))
                  clear hb3 q1
                  go_wp2_with fail
                  refine (mend1_at ⟨C, fn, fc, S, fm, fd⟩ f _ (j - 1) _ (by omega) (by omega) true H2 _ HM3.out.tab HM3.out.ok (HM3.out.box.cell 0)).mono ?_
                  rintro e w4 ⟨rfl, hb4⟩
                  have HM4 := Lib.hid (HM3.out.call hb4)
                  have HR5 := Lib.hid (show Row4 w4 gS (boolVals (mendRow f j)) from Blk.below HR3.out hb4 (Blk.lt HR3.out))
                  have r1 := HM4.out.blk.cell 1
                  have r2 := HR5.out.frozen j
                  have r3 := HR5.out.lt
                  have r4 := FIN.out _ HR5.out
                  simp at r1
                  clear hb4
                  go_wp2_with fail
                  go_roundw
                  case rel => exact ⟨j + 1, by omega, by go_num, HM4.out.grow (grown_set _ _ _), HR5.out.yes HW.out⟩
                  case measure => simp [intOf]; omega
            · have hw : waitsAt f j = true := by simp only [waitsAt, h1, Bool.true_or]
              have HW := Lib.hid hw
              have H1 := Lib.hid h1
              clear hw h1
              go_wp2_with fail
              refine (mend1_at ⟨C, fn, fc, S, fm, fd⟩ f _ j _ rfl hjc true H1 _ HM.out.tab HM.out.ok (HM.out.box.cell 0)).mono ?_
              rintro e w3 ⟨rfl, hb3⟩
              have HM3 := Lib.hid (HM.out.call hb3)
              have HR3 := Lib.hid (show Row4 w3 gS (boolVals (mendRow f j)) from Blk.below HR4.out hb3 (Blk.lt HR4.out))
              have r1 := HM3.out.blk.cell 1
              have r2 := HR3.out.frozen j
              have r3 := HR3.out.lt
              have r4 := FIN.out _ HR3.out
              simp at r1
              clear hb3 q1
              go_wp2_with fail
              go_roundw
              case rel => exact ⟨j + 1, by omega, by go_num, HM3.out.grow (grown_set _ _ _), HR3.out.yes HW.out⟩
              case measure => simp [intOf]; omega
          · have hjf : fn = j := by omega
            obtain ⟨p1, p2, p3, p4, p5⟩ := HEND.out wr HM.out (by rw [hjf]; exact HR4.out)
            rw [← hjf] at *
            have P1 := Lib.hid p1
            have P2 := Lib.hid p2
            have P3 := Lib.hid p3
            have P4 := Lib.hid p4
            have P5 := Lib.hid p5
            have g0 := HM.out.blk.cell 0
            have g1 := HM.out.blk.cell 1
            have g2 := HM.out.blk.lt
            have o0 := p1.cell 0
            have o1 := p1.frozen 0
            have o2 := p1.lt
            simp at g0 g1 o0
            clear p1 p2 p3 p4 p5 hjf
            have c1 : Hid (k + 1 ≤ maxLen) := by unfold maxLen; show _ ≤ _; omega
            have c2 : Hid (w.heap.size + 1 + 1 ≤ wr.heap.size) := by show _ ≤ _; omega
            go_wp2_with (at_builtin; go_must (refine wpList_append_1 _ rfl (.tmp 54) (.tmp 56) 30 rfl (w.heap.size + 1 + 1) 41 i0 _ 2 48 Tryd.underlying30 HI0.out HZ0.out HZ1.out HZ2.out rfl (by decide) _ _ _ _ rfl (P2.out.alloc _) ⟨wr.heap.size, 0, none⟩ 1 (fnaVals ⟨C', fn, c', some ⟨gS, 0, none⟩, fn, fn⟩) rfl rfl (cells2 (by simp [go_sem]) (by simp [go_sem])) (by simp [fnaVals, Value.oneCell']) c1.out (by omega) (by simp; exact Nat.le_of_succ_le c2.out) ?_); intro A' c2' w5 hown1 hgrow1 hat1; obtain ⟨s1, s2, s3, s4⟩ := after_append P1.out hgrow1 P2.out (by omega))
            go_roundw
            case rel => exact ⟨k + 1, by omega, by go_num, by rw [mendP_snoc fs k hkc HFK.out]; exact mendPush (Nat.le_succ _) P1.out P2.out P3.out P4.out P5.out (mendP_len fs k (Nat.le_of_lt hkc)) hown1 hgrow1 hat1⟩
            case measure => simp [intOf]; omega
    · have hkn : k = n := by omega
      subst hkn
      have q0 := HG1.out.cell 0
      have q1 := HG1.out.frozen 0
      have q2 := HG1.out.lt
      simp at q0
      go_wp2_with fail
      refine bodyPost_ret (v := .agg #[.slice G k cG]) (by simp [results, Tryd.results27, go_sem, q0]) rfl ⟨G, cG, rfl, ?_, HG4.out.setCell (by simp) _⟩
      have h3 := HG3.out
      rw [List.take_of_length_le (by rw [HN.out]; exact Nat.le_refl _)] at h3
      exact mendDone (Nat.le_succ _) HG2.out h3 _
theorem mend_any (A : Option Addr) (c : Nat) (fs : List Fn) (w : World) (hT : Tab w) (hm : fs.length ≤ 100) (hlight : ∀ f ∈ fs, f.code.length ≤ 100) (hf : FnsOk w w.heap.size A fs) :
    Calls Tryd.prog 27 #[.agg #[.slice A fs.length c]] w fun e w' => ∃ A' c', e = .returned (.agg #[.slice A' fs.length c']) ∧ FnsOk w' w'.heap.size A' (mendP fs) ∧ Below w.heap.size w w' :=
  (mend_own A c fs w hT hm hlight hf).mono fun _ _ ⟨A', c', h1, h2, h3⟩ => ⟨A', c', h1, h2.ok, h3⟩
end Go.Proofs.YtlkmpafendggiaaDoor

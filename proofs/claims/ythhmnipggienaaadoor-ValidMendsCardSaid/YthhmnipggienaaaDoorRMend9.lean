/-
  Chapter 9: contract of the reference's Mend: the result lies in memory as the mended program. Condition: the program lies in memory and is light.
-/
import Derived.Test.YthhmnipggienaaaDoorMend9b
import Derived.Test.YthhmnipggienaaaDoorPlain9
import Derived.Test.YthhmnipggienaaaDoorMix
import Derived.Test.YthhmnipggienaaaDoorApp
import Derived.Deep.DeepMust
namespace Go.Proofs.YthhmnipggienaaaDoor
open Go.RowKit
/-- What stands while the places of one function are gone through. -/
structure RMid (W wq : World) (bx : Nat) (a : FnA) (f : Fn) (g : Nat) (C' : Option Addr) (fn c' : Nat) (S' : Option Addr) (j sc : Nat) : Prop where
  low : Below W.heap.size W wq
  fnok : FnOk wq W.heap.size a f
  box : Blk wq bx 54 #[.slice a.C a.n a.c, .slice a.S a.m a.d]
  blk : Blk wq g 54 #[.slice C' fn c', .slice S' j sc]
  own : Own wq W.heap.size 23 5 C' fn c' (f.code.flatMap insVals)
  own2 : Own wq (g + 1) 4 1 S' j sc (boolVals ((List.range j).map (mendAt f)))
  hbx : bx < W.heap.size
  hg : W.heap.size ≤ g
  hC : ∀ k, ob C' = some k → k < g
section
variable {W wq w1 : World} {bx : Nat} {a : FnA} {f : Fn} {g : Nat} {C' S' A' : Option Addr} {fn c' j sc c2 : Nat} {o : Obj}
theorem own_below {w w' : World} {base : Nat} {e : TypeId} {size n c : Nat} {A : Option Addr} {xs : List Value} (h : Own w base e size A n c xs) (hb : Below w.heap.size w w') : Own w' base e size A n c xs := by
  refine h.kept (grown_below hb none) ?_
  cases A with
  | none => exact .inl rfl
  | some q => right; intro h; cases h
theorem RMid.call (M : RMid W wq bx a f g C' fn c' S' j sc) (h : Below wq.heap.size wq w1) : RMid W w1 bx a f g C' fn c' S' j sc := by
  have hb : Below W.heap.size wq w1 := h.mono M.low.size
  exact ⟨M.low.trans hb, M.fnok.below hb, M.box.below hb M.hbx, M.blk.below h M.blk.lt, own_below M.own h, own_below M.own2 h, M.hbx, M.hg, M.hC⟩
theorem RMid.ok (M : RMid W wq bx a f g C' fn c' S' j sc) : FnOk wq wq.heap.size a f := M.fnok.more M.low.size
theorem RMid.push (M : RMid W wq bx a f g C' fn c' S' j sc) (hown : Own w1 (g + 1) 4 1 A' (j + 1) c2 (boolVals ((List.range j).map (mendAt f)) ++ [.bool (mendAt f j)])) (hg : (wq.alloc o).grownBy w1 (ob S')) (_hat : ob A' = ob S' ∨ ob A' = some (wq.alloc o).heap.size) :
    RMid W (w1.setCell ⟨g, 1, none⟩ (.slice A' (j + 1) c2)) bx a f g C' fn c' A' (j + 1) c2 := by
  have hlow : Below W.heap.size wq w1 := ((Below.refl _ _).alloc M.low.size o).grown hg (by rw [World.size_alloc]; have := M.low.size; omega) (fun k hk => by have := (M.own2.lt k hk).1; have := M.hg; omega)
  have hlow2 : Below W.heap.size wq (w1.setCell ⟨g, 1, none⟩ (.slice A' (j + 1) c2)) := hlow.setCell M.hg _
  refine ⟨M.low.trans hlow2, M.fnok.below hlow2, M.box.below hlow2 M.hbx, ?_, ?_, ?_, M.hbx, M.hg, M.hC⟩
  · have := ((M.blk.alloc o).grown hg (fun e => by have := (M.own2.lt g e.symm).1; omega)).set_ 1 (.slice A' (j + 1) c2)
    simpa using this
  · refine ((M.own.alloc o).kept hg ?_).setCell _ _ ?_
    · cases hc : ob C' with
      | none => exact .inl rfl
      | some k =>
        right
        intro e
        have := (M.own2.lt k e.symm).1
        have := M.hC k hc
        omega
    · right
      intro e
      have := M.hC g e
      omega
  · rw [List.range_succ, List.map_append]
    have := hown.setCell ⟨g, 1, none⟩ (.slice A' (j + 1) c2) (hown.ne_lt (by simp))
    simpa [boolVals] using this
end
section
variable {w wr W wz : World} {g0 bx k cG : Nat} {a : FnA} {f : Fn} {g : Nat} {C' G S' : Option Addr} {fn c' sc : Nat} {al : List FnA} {gs : List Fn}
theorem rmendEnd (HG1 : Blk wr g0 41 #[.slice G k cG]) (HG2 : Own wr (g0 + 1) 54 2 G k cG (al.flatMap fnaVals)) (HG3 : FnsAt wr (Off wr g0 G) al gs) (HG4 : Below w.heap.size w wr)
    (HWB : Below wr.heap.size wr W) (hcl : f.code.length = fn) (hok : ∀ i ∈ f.code, InsOk i) (hfn : fn ≤ 100) (M : RMid W wz bx a f g C' fn c' S' fn sc) :
    Blk wz g0 41 #[.slice G k cG] ∧ Own wz (g0 + 1) 54 2 G k cG (al.flatMap fnaVals) ∧ FnsAt wz (Off wz g0 G) al gs ∧ FnS wz (Off wz g0 G) ⟨C', fn, c', S', fn, sc⟩ (mendF f) ∧ Below w.heap.size w wz := by
  have hl : Below wr.heap.size wr wz := HWB.trans (M.low.mono HWB.size)
  have hoff : ∀ b, W.heap.size ≤ b → b < wz.heap.size → Off wz g0 G b := fun b h1 h2 => by
    have := HG1.lt
    have := HWB.size
    refine ⟨h2, by omega, fun e => ?_⟩
    have := (HG2.lt b e).2
    omega
  have hmx : fn ≤ maxLen := by unfold maxLen; omega
  refine ⟨HG1.below hl HG1.lt, own_below HG2 hl, HG3.below hl, ⟨hcl.symm, ?_, ?_, ?_, hmx, hmx, hok⟩, HG4.trans (hl.mono HG4.size)⟩
  · show fn = (mendSafe f).length
    rw [← hcl]; simp [mendSafe]
  · exact M.own.rowS.mono fun b hb => hoff b hb.1 hb.2
  · have h := M.own2.rowS
    subst hcl
    exact h.mono fun b hb => hoff b (by have := M.hg; omega) hb.2
end
section
variable {W w1 : World} {bx : Nat} {a : FnA} {f : Fn} {C' : Option Addr} {fn c' : Nat}
theorem rmidStart (hbox : Blk W bx 54 #[.slice a.C a.n a.c, .slice a.S a.m a.d]) (hfn : FnOk W W.heap.size a f) (hown : Own w1 W.heap.size 23 5 C' fn c' (f.code.flatMap insVals)) (hg : (W.alloc (.cells #[] 23)).grownBy w1 (some W.heap.size)) :
    RMid W (w1.alloc (.cells #[.slice C' fn c', .slice none 0 0] 54)) bx a f w1.heap.size C' fn c' none 0 0 := by
  have h0 : Below W.heap.size W w1 := ((Below.refl _ _).alloc (Nat.le_refl _) _).grown hg (by simp) (fun k hk => by injection hk with hk; omega)
  have h1 : Below W.heap.size W (w1.alloc (.cells #[.slice C' fn c', .slice none 0 0] 54)) := h0.alloc h0.size _
  exact ⟨h1, hfn.below h1, hbox.below h1 hbox.lt, Blk.new _ _ _, hown.alloc _, Own.nil _ _ _ _, hbox.lt, h0.size, fun k hk => (hown.lt k hk).2⟩
end
theorem Row.step_ {w w' : World} {A : Option Addr} {xs : List Value} (h : Row w w.heap.size A xs) (hb : Below w.heap.size w w') : Row w' w'.heap.size A xs := (h.below hb).more hb.size
/-- Four cells, and what they hold. -/
def Cells4 (p0 p1 p2 p3 : Addr) (v0 v1 v2 v3 : Value) (w : World) : Prop := w.cell? p0 = some v0 ∧ w.cell? p1 = some v1 ∧ w.cell? p2 = some v2 ∧ w.cell? p3 = some v3
theorem cell_grown {w w1 : World} {o : Obj} {row : Option Nat} {b i : Nat} (hg : (w.alloc o).grownBy w1 row) (hb : b < w.heap.size) (hne : row ≠ some b) : w1.cell? ⟨b, i, none⟩ = w.cell? ⟨b, i, none⟩ :=
  World.cell?_of_block (w := w) ((hg.block b (by rw [World.size_alloc]; omega) (fun e => hne e.symm)).trans (Below.heap_alloc _ _ _ hb))
section
variable {W wq w1 : World} {bx : Nat} {a : FnA} {f : Fn} {g : Nat} {C' S' : Option Addr} {fn c' j sc b1 o1 : Nat} {op : Int} {o : Obj}
theorem RMid.cells (M : RMid W wq bx a f g C' fn c' S' j sc) (hc : wq.cell? ⟨b1, o1, none⟩ = some (.int .i64 op)) : Cells4 ⟨g, 1, none⟩ ⟨bx, 0, none⟩ ⟨bx, 1, none⟩ ⟨b1, o1, none⟩ (.slice S' j sc) (.slice a.C a.n a.c) (.slice a.S a.m a.d) (.int .i64 op) wq :=
  ⟨M.blk.cell 1, M.box.cell 0, M.box.cell 1, hc⟩
theorem RMid.grown_cells (M : RMid W wq bx a f g C' fn c' S' j sc) (hb1 : b1 < W.heap.size) (hc : wq.cell? ⟨b1, o1, none⟩ = some (.int .i64 op)) (hg : (wq.alloc o).grownBy w1 (ob S')) : Cells4 ⟨g, 1, none⟩ ⟨bx, 0, none⟩ ⟨bx, 1, none⟩ ⟨b1, o1, none⟩ (.slice S' j sc) (.slice a.C a.n a.c) (.slice a.S a.m a.d) (.int .i64 op) w1 := by
  have hlow := M.low.size
  have hgq := M.hg
  have hne : ∀ b, b ≤ g → ob S' ≠ some b := fun b hb e => by have := (M.own2.lt b e).1; omega
  have h := M.cells hc
  have hbx := M.hbx
  exact ⟨(cell_grown hg M.blk.lt (hne g (Nat.le_refl _))).trans h.1, (cell_grown hg M.box.lt (hne bx (by omega))).trans h.2.1, (cell_grown hg M.box.lt (hne bx (by omega))).trans h.2.2.1, (cell_grown hg (by omega) (hne b1 (by omega))).trans h.2.2.2⟩
end
theorem mendAt_of {f : Fn} {j : Nat} {s ah : Bool} {op : Int} (h1 : safeB f.safe (j : Int) = s) (h2 : ah = (decide (0 < j) && opWaits (f.code.getD (j - 1) noIns).op)) (h3 : (f.code.getD j noIns).op = op) : mendAt f j = (s || (ah || opWaits op)) := by
  unfold mendAt waitsAt
  rw [h1, h3, ← h2, Bool.or_comm (opWaits op) ah]
theorem rmendDone {wr : World} {gs : List Fn} {k g0 g2 cG : Nat} {G : Option Addr} {al : List FnA} (hg : g2 < g0) (h2 : Own wr (g0 + 1) 54 2 G k cG (al.flatMap fnaVals)) (h3 : FnsAt wr (Off wr g0 G) al gs) (v : Value) :
    FnsOk (wr.setCell ⟨g2, 0, none⟩ v) (wr.setCell ⟨g2, 0, none⟩ v).heap.size G gs :=
  ((h3.keep fun b hS => Below.heap_setCell wr ⟨g2, 0, none⟩ v b (show b ≠ g2 by have := hS.2.1; omega)).mono fun b hS => (by simpa [World.setCell] using hS.1 : b < (wr.setCell ⟨g2, 0, none⟩ v).heap.size)).ok (fun _ hb => hb) (h2.setCell ⟨g2, 0, none⟩ v (h2.ne_lt (show g2 < g0 + 1 by omega))).rowN
theorem boolcell (w : World) (x : Bool) (t : TypeId) : ∀ j u, [Value.bool x][j]? = some u → (w.alloc (.cells #[.bool x] t)).cell? ((⟨w.heap.size, 0, none⟩ : Addr).add j) = some u := by
  intro j u hu
  match j, hu with
  | 0, hu => simp at hu; rw [← hu]; simp [go_sem]
set_option maxHeartbeats 4000000 in
set_option maxRecDepth 100000 in
theorem rmend_any (A : Option Addr) (c : Nat) (fs : List Fn) (n : Nat) (hN : Hid (fs.length = n)) (w : World) (hm : n ≤ 100) (hlight : ∀ f ∈ fs, f.code.length ≤ 100) (hf : FnsOk w w.heap.size A fs) :
    Calls Tryd.prog 47 #[.agg #[.slice A n c]] w fun e w' => ∃ A' c', e = .returned (.agg #[.slice A' n c']) ∧ FnsOk w' w'.heap.size A' (mendP fs) ∧ Below w.heap.size w w' := by
  obtain ⟨i0, hi, hz0, hz1, hz2⟩ := info_parts Tryd.infoFn
  have HI0 := Lib.hid hi
  have HZ0 := Lib.hid hz0
  have HZ1 := Lib.hid hz1
  have HZ2 := Lib.hid hz2
  clear hi hz0 hz1 hz2
  obtain ⟨i1, hi, hz0, hz1, hz2⟩ := info_parts Tryd.infoIns
  have II0 := Lib.hid hi
  have IZ0 := Lib.hid hz0
  have IZ1 := Lib.hid hz1
  have IZ2 := Lib.hid hz2
  clear hi hz0 hz1 hz2
  obtain ⟨i2, hi, hz0, hz1, hz2⟩ := info_parts Tryd.infoBool
  have BI0 := Lib.hid hi
  have BZ0 := Lib.hid hz0
  have BZ1 := Lib.hid hz1
  have BZ2 := Lib.hid hz2
  clear hi hz0 hz1 hz2
  have HL := Lib.hid hlight
  have HF := Lib.hid hf
  have hB0 : Below w.heap.size w ((w.alloc (.cells #[.slice A n c] 41)).alloc (.cells #[.slice none 0 0] 41)) := ((Below.refl _ _).alloc (Nat.le_refl _) _).alloc (by simp) _
  have hbx0 : Blk ((w.alloc (.cells #[.slice A n c] 41)).alloc (.cells #[.slice none 0 0] 41)) w.heap.size 41 #[.slice A n c] := (Blk.new _ _ _).alloc _
  have hrs0 : Blk ((w.alloc (.cells #[.slice A n c] 41)).alloc (.cells #[.slice none 0 0] 41)) (w.heap.size + 1) 41 #[.slice none 0 0] := by
    have := Blk.new (w.alloc (.cells #[.slice A n c] 41)) 41 #[.slice none 0 0]
    rwa [World.size_alloc] at this
  clear hlight hf
  go_enter Tryd.func47, Tryd.ntmps47
  go_wp2_with fail
  have hsz : ((w.alloc (.cells #[.slice A n c] 41)).alloc (.cells #[.slice none 0 0] 41)).heap.size = w.heap.size + 1 + 1 := by simp
  rw [← hsz]
  generalize ((w.alloc (.cells #[.slice A n c] 41)).alloc (.cells #[.slice none 0 0] 41)) = W0 at *
  have HB0 := Lib.hid hB0
  have HX0 := Lib.hid hbx0
  have HR0 := Lib.hid hrs0
  have hw0 : w.heap.size < W0.heap.size := hbx0.lt
  have hw1 : w.heap.size + 1 < W0.heap.size := hrs0.lt
  have HI := Lib.hid (MendInv.start W0 W0 (Below.refl _ _))
  have HFW := Lib.hid (HF.out.step hB0)
  clear hB0 hbx0 hrs0 hsz HF
  go_loopw [4] (fun vi wr => ∃ k : Nat, k ≤ n ∧ vi = .int .i64 k ∧ MendInv W0 W0.heap.size (mendP (fs.take k)) wr) (fun vi _ => n - (intOf vi).toNat)
  case atStart => exact ⟨0, by omega, rfl, by rw [List.take_zero]; exact HI.out⟩
  case round =>
    obtain ⟨k, hk, rfl, hI⟩ := hrel
    clear HI
    obtain ⟨G, cG, al, hG1, hG2, hG3, hG4⟩ := hI
    rw [mendP_len fs k (by rw [hN.out]; exact hk)] at hG1 hG2
    have p0 := (HX0.out.below hG4 hw0).cell 0
    have pr := (HR0.out.below hG4 hw1).cell 0
    have pf := (HR0.out.below hG4 hw1).frozen 0
    simp at p0 pr
    have HG1 := Lib.hid hG1
    have HG2 := Lib.hid hG2
    have HG3 := Lib.hid hG3
    have HG4 := Lib.hid hG4
    clear hG1 hG2 hG3 hG4
    by_cases hlt : k < n
    · clear pr pf
      have hkc : k < fs.length := by rw [hN.out]; exact hlt
      obtain ⟨b, off, a, eA, hbb, c0, c1, hfn⟩ := (HFW.out.below HG4.out).at_ k hkc
      subst eA
      have HLK : (fs[k]'hkc).code.length ≤ 100 := HL.out _ (List.getElem_mem _)
      generalize hfk : fs[k]'hkc = f at *
      have HFK := Lib.hid hfk
      clear hfk
      obtain ⟨C, fn, fc, S, fm, fd⟩ := a
      simp only at c0 c1
      have bF := Blk.new wr 54 #[.slice C fn fc, .slice S fm fd]
      have hWb : Below wr.heap.size wr (wr.alloc (.cells #[.slice C fn fc, .slice S fm fd] 54)) := (Below.refl _ _).alloc (Nat.le_refl _) _
      have hfW : FnOk (wr.alloc (.cells #[.slice C fn fc, .slice S fm fd] 54)) (wr.alloc (.cells #[.slice C fn fc, .slice S fm fd] 54)).heap.size ⟨C, fn, fc, S, fm, fd⟩ f := (hfn.more HG4.out.size).step hWb
      have hcl : f.code.length = fn := hfn.1.symm
      have hfn100 : fn ≤ 100 := by omega
      have HCL := Lib.hid hcl
      have hrow : Row ((wr.alloc (.cells #[.slice C fn fc, .slice S fm fd] 54)).alloc (.cells #[] 23)) (wr.alloc (.cells #[.slice C fn fc, .slice S fm fd] 54)).heap.size C (f.code.flatMap insVals) := hfW.2.2.1.below ((Below.refl _ _).alloc (Nat.le_refl _) _)
      have HROW := Lib.hid hrow
      have HFN := Lib.hid hfn
      have HFW2 := Lib.hid hfW
      have HBF := Lib.hid bF
      have HWB := Lib.hid hWb
      have hIL : (f.code.flatMap insVals).length = fn * 5 := by rw [flat_length insVals_len, hcl]
      have HIL := Lib.hid hIL
      have H1 := Lib.hid (insVals_one f.code)
      have hmade : Own ((wr.alloc (.cells #[.slice C fn fc, .slice S fm fd] 54)).alloc (.cells #[] 23)) (wr.heap.size + 1) 23 5 (some ⟨wr.heap.size + 1, 0, none⟩) 0 0 [] := by
        have h := World.ownsRow_made (base := (wr.alloc (.cells #[.slice C fn fc, .slice S fm fd] 54)).heap.size) (e := 23) (size := 5) (wr.alloc (.cells #[.slice C fn fc, .slice S fm fd] 54)) #[] 0 (Nat.le_refl _) (Nat.zero_le _) (by simp)
        rw [World.size_alloc] at h
        exact h
      have HMADE := Lib.hid hmade
      clear hmade
      have c9 : Hid (0 + fn ≤ maxLen) := by unfold maxLen; show _ ≤ _; omega
      clear hfn bF hWb hfW hcl hrow hIL
      go_wp2_with (at_builtin; go_must (refine wpList_append_row _ rfl (.tmp 21) (.tmp 23) 51 rfl (wr.heap.size + 1) 23 i1 _ 5 40 Tryd.underlying51 II0.out IZ0.out IZ1.out IZ2.out rfl (by decide) _ 0 0 [] rfl HMADE.out C fn fc _ (f.code.flatMap insVals) rfl HIL.out HROW.out H1.out c9.out (by omega) (by simp) ?_); intro C' c' w1 hown1 hgrow1 hat1; simp only [Nat.zero_add, List.nil_append] at hown1 ⊢)
      have hsW : (wr.alloc (.cells #[.slice C fn fc, .slice S fm fd] 54)).heap.size = wr.heap.size + 1 := by simp
      rw [← hsW] at hown1 hgrow1
      have hM := rmidStart HBF.out HFW2.out hown1 hgrow1
      have hend : ∀ wz S' sc, RMid (wr.alloc (.cells #[.slice C fn fc, .slice S fm fd] 54)) wz wr.heap.size ⟨C, fn, fc, S, fm, fd⟩ f w1.heap.size C' fn c' S' fn sc → _ := fun wz S' sc => rmendEnd HG1.out HG2.out HG3.out HG4.out HWB.out HCL.out HFN.out.2.2.2.2.2.2 hfn100
      have HEND := Lib.hid hend
      have HM := Lib.hid hM
      clear hsW hown1 hgrow1 hat1 hM hend HMADE HROW HFW2 HBF HWB HIL H1 c9 c0 c1 p0
      generalize (wr.alloc (.cells #[.slice C fn fc, .slice S fm fd] 54)) = W at *
      generalize wr.heap.size = wb at *
      go_loopw [7] (fun vi wq => ∃ (j : Nat) (S' : Option Addr) (sc : Nat), j ≤ fn ∧ vi = .int .i64 j ∧ RMid W wq wb ⟨C, fn, fc, S, fm, fd⟩ f w1.heap.size C' fn c' S' j sc) (fun vi _ => fn - (intOf vi).toNat)
      case atStart => exact ⟨0, none, 0, by omega, rfl, HM.out⟩
      case round =>
        obtain ⟨j, S', sc, hj, rfl, hM⟩ := hrel
        clear HM
        have HM := Lib.hid hM
        have q0 := hM.box.cell 0
        simp at q0
        clear hM
        by_cases hjn : j < fn
        · have hjc : j < f.code.length := by rw [HCL.out]; exact hjn
          obtain ⟨b1, o1, e1, hb1, d0, -⟩ := HM.out.fnok.ins5 j hjc
          simp only at e1
          subst e1
          have hop : f.code[j].op = (f.code.getD j noIns).op := by simp [hjc]
          rw [hop] at d0
          generalize hO : (f.code.getD j noIns).op = opj at *
          have HO := Lib.hid hO
          clear hO hop
          have hx : ∃ ah : Bool, Hid (ah = (decide (0 < j) && opWaits (f.code.getD (j - 1) noIns).op)) := ⟨_, rfl⟩
          obtain ⟨ah, HA⟩ := hx
          have HMX := Lib.hid (mendAt_of (s := safeB f.safe (j : Int)) rfl HA.out HO.out)
          rcases Nat.lt_or_ge 0 j with hj0 | hj0
          rotate_left
          focus
            have ha : ah = false := by rw [HA.out]; simp; omega
            subst ha
            go_wp2_with fail
          rotate_left
          focus
            have hj1 : j - 1 < f.code.length := by omega
            obtain ⟨b2, o2, e2, hb2, d1, -⟩ := HM.out.ok.ins5 (j - 1) hj1
            simp only [Option.some.injEq, Addr.mk.injEq, and_true] at e2
            obtain ⟨e2, e3⟩ := e2
            subst e2 e3
            have hop : f.code[j - 1].op = (f.code.getD (j - 1) noIns).op := by simp [hj1]
            rw [hop] at d1
            have ha : ah = opWaits (f.code.getD (j - 1) noIns).op := by rw [HA.out]; simp [hj0]
            generalize (f.code.getD (j - 1) noIns).op = opk at *
            have HAA := Lib.hid ha
            clear hop ha
            go_wp2_with ((go_at_call 29; refine (rwaits_any _ _).mono ?_; rintro e w1 ⟨rfl, rfl⟩))
            rw [← HAA.out]
          all_goals
            have HD0 := Lib.hid d0
            have C0 := HM.out.cells d0
            have F0 : ∀ w', Cells4 ⟨w1.heap.size, 1, none⟩ ⟨wb, 0, none⟩ ⟨wb, 1, none⟩ ⟨b1, o1 + j * 5, none⟩ (.slice S' j sc) (.slice (some ⟨b1, o1, none⟩) fn fc) (.slice S fm fd) (.int .i64 opj) w' → w'.cell? ⟨w1.heap.size, 1, none⟩ = some (.slice S' j sc) := fun w' h => h.1
            have F1 : ∀ w', Cells4 ⟨w1.heap.size, 1, none⟩ ⟨wb, 0, none⟩ ⟨wb, 1, none⟩ ⟨b1, o1 + j * 5, none⟩ (.slice S' j sc) (.slice (some ⟨b1, o1, none⟩) fn fc) (.slice S fm fd) (.int .i64 opj) w' → w'.cell? ⟨wb, 0, none⟩ = some (.slice (some ⟨b1, o1, none⟩) fn fc) := fun w' h => h.2.1
            have F2 : ∀ w', Cells4 ⟨w1.heap.size, 1, none⟩ ⟨wb, 0, none⟩ ⟨wb, 1, none⟩ ⟨b1, o1 + j * 5, none⟩ (.slice S' j sc) (.slice (some ⟨b1, o1, none⟩) fn fc) (.slice S fm fd) (.int .i64 opj) w' → w'.cell? ⟨wb, 1, none⟩ = some (.slice S fm fd) := fun w' h => h.2.2.1
            have F3 : ∀ w', Cells4 ⟨w1.heap.size, 1, none⟩ ⟨wb, 0, none⟩ ⟨wb, 1, none⟩ ⟨b1, o1 + j * 5, none⟩ (.slice S' j sc) (.slice (some ⟨b1, o1, none⟩) fn fc) (.slice S fm fd) (.int .i64 opj) w' → w'.cell? ⟨b1, o1 + j * 5, none⟩ = some (.int .i64 opj) := fun w' h => h.2.2.2
            clear d0 q0
            generalize hs : safeB f.safe (j : Int) = s at *
            have HS := Lib.hid hs
            clear hs
            cases s <;> (try cases ah)
          all_goals
            refine region_mixE (Cells4 ⟨w1.heap.size, 1, none⟩ ⟨wb, 0, none⟩ ⟨wb, 1, none⟩ ⟨b1, o1 + j * 5, none⟩ (.slice S' j sc) (.slice (some ⟨b1, o1, none⟩) fn fc) (.slice S fm fd) (.int .i64 opj)) 1 [4, 10, 1, 0] (by kernel_rfl) (by kernel_rfl) (by kernel_rfl) (fun _ _ d _ _ h => by cases d <;> exact h) C0 ?_
            (try simp only [Act.put, List.setIfInBounds_toArray, List.set_cons_zero, List.set_cons_succ]); refine mixE_seg ?_; simp only [List.take_succ_cons, List.take_zero, List.drop_succ_cons, List.drop_zero]; (repeat (first | go_big_quiet_skip | (go_big_quiet_want; first | (go_big_quiet_op; first | go_big_quiet_on | ((first | with_reducible refine ⟨_, fun _ _ => rfl, ?_⟩); go_big_quiet_on)) | (simp (contextual := true) [go_sem, F0, F1, F2]; with_reducible refine ⟨_, fun _ _ => rfl, ?_⟩; go_big_quiet_on)))); refine wpQuiet_nil ?_
            go_wp2_with fail
            refine (safe_any _ (.inr rfl) _ _ _ _ _ _ f.safe _ _ HM.out.ok.2.1.symm HM.out.ok.2.2.2.2.2.1 (HM.out.ok.2.2.2.1.step_ (Below.refl _ _).drew)).mono ?_
            rintro e w2 ⟨rfl, hb2⟩
            rw [HS.out]
            have HB2 := Lib.hid (show Below wr.heap.size wr w2 from (Below.refl _ _).drew.trans hb2)
            have HM2 := Lib.hid (HM.out.call HB2.out)
            have HD2 := Lib.hid ((HB2.out.cell (p := ⟨b1, _, none⟩) (Nat.lt_of_lt_of_le hb1 HM.out.low.size)).trans HD0.out)
            clear hb2
            go_wp2_with fail
            refine ⟨HM2.out.cells HD2.out, ?_⟩
            (try simp only [Act.put, List.setIfInBounds_toArray, List.set_cons_zero, List.set_cons_succ]); refine mixE_seg ?_; simp only [List.take_succ_cons, List.take_zero, List.drop_succ_cons, List.drop_zero]; (repeat (first | go_big_quiet_skip | (go_big_quiet_want; first | (go_big_quiet_op; first | go_big_quiet_on | ((first | with_reducible refine ⟨_, fun _ _ => rfl, ?_⟩); go_big_quiet_on)) | (simp (contextual := true) [go_sem, F1, F3]; with_reducible refine ⟨_, fun _ _ => rfl, ?_⟩; go_big_quiet_on)))); refine wpQuiet_nil ?_
            go_wp2_with ((go_at_call 29; refine (rwaits_any _ _).mono ?_; rintro e w1 ⟨rfl, rfl⟩))
            refine ⟨HM2.out.cells HD2.out, ?_⟩
            (try simp only [Act.put, List.setIfInBounds_toArray, List.set_cons_zero, List.set_cons_succ]); refine mixE_seg ?_; simp only [List.take_succ_cons, List.take_zero, List.drop_succ_cons, List.drop_zero]; (repeat (first | go_big_quiet_skip | (go_big_quiet_want; first | (go_big_quiet_op; first | go_big_quiet_on | ((first | with_reducible refine ⟨_, fun _ _ => rfl, ?_⟩); go_big_quiet_on)) | (simp (contextual := true) [go_sem, F0, F1, F2, F3]; with_reducible refine ⟨_, fun _ _ => rfl, ?_⟩; go_big_quiet_on)))); refine wpQuiet_nil ?_
            go_wp2_with fail
            refine ⟨(HM2.out.call ((Below.refl _ _).alloc (Nat.le_refl _) _)).cells ((((Below.refl _ _).alloc (Nat.le_refl _) _).cell (p := ⟨b1, _, none⟩) (Nat.lt_of_lt_of_le hb1 HM2.out.low.size)).trans HD2.out), ?_⟩
            (try simp only [Act.put, List.setIfInBounds_toArray, List.set_cons_zero, List.set_cons_succ]); refine mixE_seg ?_; simp only [List.take_succ_cons, List.take_zero, List.drop_succ_cons, List.drop_zero]; (repeat (first | go_big_quiet_skip | (go_big_quiet_want; first | (go_big_quiet_op; first | go_big_quiet_on | ((first | with_reducible refine ⟨_, fun _ _ => rfl, ?_⟩); go_big_quiet_on)) | (simp (contextual := true) [go_sem, F0, F1, F2, F3]; with_reducible refine ⟨_, fun _ _ => rfl, ?_⟩; go_big_quiet_on)))); refine wpQuiet_nil ?_
            have c1 : Hid (j + 1 ≤ maxLen) := by unfold maxLen; show _ ≤ _; omega
            have c2 : Hid (w1.heap.size + 1 ≤ w2.heap.size + 1) := Nat.succ_le_succ (Nat.le_of_lt HM2.out.blk.lt)
            go_wp2_with (at_builtin; go_must (refine wpList_append_1 _ rfl (.tmp 46) (.tmp 62) 52 rfl (w1.heap.size + 1) 4 i2 _ 1 1 Tryd.underlying52 BI0.out BZ0.out BZ1.out BZ2.out rfl (by decide) _ _ _ _ rfl (HM2.out.own2.alloc _) ⟨w2.heap.size, 0, none⟩ 1 [.bool _] rfl rfl (boolcell _ _ _) (by simp [Value.oneCell']) c1.out (by omega) (by rw [World.size_alloc]; exact c2.out) ?_); intro A' c2' w5 hown1 hgrow1 hat1)
            refine ⟨HM2.out.grown_cells hb1 HD2.out hgrow1, ?_⟩
            (try simp only [Act.put, List.setIfInBounds_toArray, List.set_cons_zero, List.set_cons_succ]); refine mixE_end ?_; simp only [List.take_succ_cons, List.take_zero, List.drop_succ_cons, List.drop_zero]; (repeat (first | go_big_quiet_skip | (go_big_quiet_want; first | (go_big_quiet_op; first | go_big_quiet_on | ((first | with_reducible refine ⟨_, fun _ _ => rfl, ?_⟩); go_big_quiet_on)) | (simp (contextual := true) [go_sem, F0, F1, F2, F3]; with_reducible refine ⟨_, fun _ _ => rfl, ?_⟩; go_big_quiet_on)))); refine wpQuiet_nil ?_
            have s1 := HM2.out.grown_cells hb1 HD2.out hgrow1
            have s2 : w5.frozen? ⟨w1.heap.size, 1, none⟩ = false := (after_append HM2.out.blk hgrow1 HM2.out.own2 (Nat.lt_succ_self _)).2.2.1 1
            have s3 := s1.1
            clear F0 F1 F2 F3 C0
            go_wp2_with fail
            go_roundw
            case rel => exact ⟨j + 1, A', c2', by omega, by go_num, HM2.out.push (by rw [HMX.out]; simpa using hown1) hgrow1 hat1⟩
            case measure => simp [intOf]; omega
        · have hjf : fn = j := by omega
          subst hjf
          obtain ⟨p1, p2, p3, p4, p5⟩ := HEND.out wr S' sc HM.out
          have P1 := Lib.hid p1
          have P2 := Lib.hid p2
          have P3 := Lib.hid p3
          have P4 := Lib.hid p4
          have P5 := Lib.hid p5
          have g0 := HM.out.blk.cell 0
          have g1 := HM.out.blk.cell 1
          have g2 := HM.out.blk.lt
          have o0 := p1.cell 0
          have o1 := p1.frozen 0
          have o2 := p1.lt
          simp at g0 g1 o0
          clear p1 p2 p3 p4 p5
          have c1 : Hid (k + 1 ≤ maxLen) := by unfold maxLen; show _ ≤ _; omega
          have c2 : Hid (W0.heap.size + 1 ≤ wr.heap.size) := by show _ ≤ _; omega
          go_wp2_with (at_builtin; go_must (refine wpList_append_1 _ rfl (.tmp 66) (.tmp 68) 39 rfl (W0.heap.size + 1) 54 i0 _ 2 48 Tryd.underlying39 HI0.out HZ0.out HZ1.out HZ2.out rfl (by decide) _ _ _ _ rfl (P2.out.alloc _) ⟨wr.heap.size, 0, none⟩ 1 (fnaVals ⟨C', fn, c', S', fn, sc⟩) rfl rfl (cells2 (by simp [go_sem]) (by simp [go_sem])) (by simp [fnaVals, Value.oneCell']) c1.out (by omega) (by rw [World.size_alloc]; exact Nat.le_succ_of_le c2.out) ?_); intro A' c2' w5 hown1 hgrow1 hat1; obtain ⟨s1, s2, s3, s4⟩ := after_append P1.out hgrow1 P2.out (by omega))
          go_roundw
          case rel => exact ⟨k + 1, by omega, by go_num, by rw [mendP_snoc fs k hkc HFK.out]; exact mendPush (Nat.le_refl _) P1.out P2.out P3.out P4.out P5.out (mendP_len fs k (Nat.le_of_lt hkc)) hown1 hgrow1 hat1⟩
          case measure => simp [intOf]; omega
    · have hkn : k = n := by omega
      subst hkn
      have q0 := HG1.out.cell 0
      simp at q0
      go_wp2_with fail
      refine bodyPost_ret (v := .agg #[.slice G k cG]) (by simp [results, Tryd.results47, go_sem, pr]) rfl ⟨G, cG, rfl, ?_, HB0.out.trans (HG4.out.mono HB0.out.size) |>.setCell (by simp) _⟩
      have h3 := HG3.out
      rw [List.take_of_length_le (by rw [hN.out]; exact Nat.le_refl _)] at h3
      exact rmendDone (by omega) HG2.out h3 _
end Go.Proofs.YthhmnipggienaaaDoor

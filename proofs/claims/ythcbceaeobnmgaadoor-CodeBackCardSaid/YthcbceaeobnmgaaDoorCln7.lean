/-
  Chapter 7: contracts of slices.Clone at truths and of code.Clone. Conditions: what is cloned lies in memory, and is light.
-/
import Derived.Test.YthcbceaeobnmgaaDoorClone9
import Derived.Test.YthcbceaeobnmgaaDoorCopy
import Derived.Test.YthcbceaeobnmgaaDoorSchE
import Derived.Test.YthcbceaeobnmgaaDoorSchT
namespace Go.Proofs.YthcbceaeobnmgaaDoor
open Go.RowKit
theorem Tryd.infoBool7 : (Tryd.prog.info? 4).map (fun i => (i.zero, i.size, i.bytes)) = some (some (.bool false), 1, 1) := by kernel_rfl
theorem Tryd.infoFn7 : (Tryd.prog.info? 31).map (fun i => (i.zero, i.size, i.bytes)) = some (some (.agg #[.slice none 0 0, .slice none 0 0]), 2, 48) := by kernel_rfl
set_option maxHeartbeats 1000000 in
set_option maxRecDepth 100000 in
theorem cloneB_any (C : Option Addr) (n c : Nat) (l : List Bool) (w : World) (hl : l.length = n) (hn : n ≤ 100) (hr : Row w w.heap.size C (boolVals l)) :
    Calls Tryd.prog 19 #[.slice C n c] w fun e w' => ∃ A' c', e = .returned (.slice A' n c') ∧ Own w' w.heap.size 4 1 A' n c' (boolVals l) ∧ Below w.heap.size w w' := by
  have q51 : ∀ (w : World) (a : Option Addr) (n c n' c' : Nat), (binOp .eql 29 (.slice a n c) (.slice none n' c')).run Tryd.prog w = .ok (.bool a.isNone) w := fun w a n c n' c' => Lib.run_eql_slice_nil w _ _ a n c n' c' Tryd.underlying29
  obtain ⟨i0, hi, hz0, hz1, hz2⟩ := info_parts Tryd.infoBool7
  cases C with
  | none =>
    have h0 : l = [] := by
      rcases hr with h | ⟨b, off, e, _⟩
      · cases l with
        | nil => rfl
        | cons a l => simp [boolVals] at h
      · cases e
    subst h0
    obtain rfl : n = 0 := by simpa using hl.symm
    clear hl hr hi hz0 hz1 hz2
    go_enter Tryd.func19, Tryd.ntmps19
    go_wp2
    go_ret
    exact ⟨none, 0, rfl, Own.nil _ _ _ _, Below.refl _ _⟩
  | some q =>
    have hlen : (boolVals l).length = n * 1 := by simp [boolVals, hl]
    have hc : ∀ j u, (boolVals l)[j]? = some u → w.cell? (q.add j) = some u := by
      rcases hr with h | ⟨b, off, e, _, h⟩
      · intro j u hu; rw [h] at hu; cases hu
      · cases e
        intro j u hu
        rw [Addr.add_lit]
        exact h j u hu
    have HC := Lib.hid hc
    have HL := Lib.hid hlen
    have H1 := Lib.hid (boolVals_one l)
    have HI := Lib.hid hi
    have HZ0 := Lib.hid hz0
    have HZ1 := Lib.hid hz1
    have HZ2 := Lib.hid hz2
    clear hc hlen hl hr hi hz0 hz1 hz2
    go_enter Tryd.func19, Tryd.ntmps19
    go_wp2_with (at_builtin; refine wpList_append_own _ rfl _ _ 29 rfl w.heap.size 4 i0 _ 1 1 Tryd.underlying29 HI.out HZ0.out HZ1.out HZ2.out rfl (by decide) _ _ _ rfl (World.ownsRow_made w #[] 0 (Nat.le_refl _) (Nat.zero_le _) (by simp)) q n c (boolVals l) rfl ?qc1 ?qc2 ?qc3 ?qc4 ?qc5 ?qc6 ?_)
    case qc1 => exact HL.out
    case qc2 =>
      intro j u hj
      exact Lib.cell?_alloc_some _ (HC.out j u hj)
    case qc3 => exact H1.out
    case qc4 => rw [Nat.zero_add]; unfold maxLen; omega
    case qc5 => omega
    case qc6 => simp
    intro v' w1 hown hgrow hnil
    have hex : ∃ A' cc, v' = .slice A' n cc := by
      rcases hown.2 with ⟨hv, h0⟩ | ⟨g, cap, cur, hv, _⟩
      · exact absurd hv hnil
      · exact ⟨_, _, hv⟩
    obtain ⟨A', cc, rfl⟩ := hex
    go_wp2_with fail
    go_ret
    refine ⟨A', cc, rfl, ?_, ?_⟩
    · exact hown
    · exact ((Below.refl _ w).alloc (Nat.le_refl _) _).grown hgrow (by simp) (by intro k hk; simp [Value.ownBlock] at hk; omega)
/-- What is read in Clone's region. -/
def S3c (g gF : Nat) (v0 v1 v2 : Value) (w' : World) : Prop := w'.cell? ⟨g, 0, none⟩ = some v0 ∧ w'.cell? ⟨gF, 0, none⟩ = some v1 ∧ w'.cell? ⟨gF, 1, none⟩ = some v2
/-- A row that may be written. -/
def UnfS (w : World) (S : Nat → Prop) (A : Option Addr) : Prop := ∀ q, A = some q → S q.block ∧ ∀ i, w.frozen? ⟨q.block, i, none⟩ = false
theorem UnfS.keep {w w' : World} {S S' : Nat → Prop} {A : Option Addr} (h : UnfS w S A) (hk : ∀ b, S b → w'.heap[b]? = w.heap[b]?) (hs : ∀ b, S b → S' b) : UnfS w' S' A := fun q e => by
  obtain ⟨h1, h2⟩ := h q e
  refine ⟨hs _ h1, fun i => ?_⟩
  have := h2 i
  unfold World.frozen? at this ⊢
  rw [hk _ h1]
  exact this
theorem Own.unf {w : World} {base : Nat} {e : TypeId} {size n c : Nat} {A : Option Addr} {xs : List Value} (h : Own w base e size A n c xs) : UnfS w (fun b => base ≤ b ∧ b < w.heap.size) A := by
  intro q e'
  subst e'
  refine ⟨h.lt _ rfl, fun i => ?_⟩
  rcases h.2 with ⟨hn, _⟩ | ⟨g', cap, cur, hv, hg, hh, _⟩
  · cases hn
  · injection hv with hv
    injection hv with hv
    subst hv
    exact Blk.frozen (t := e) hh i
def UnfOk (w : World) (S : Nat → Prop) (al : List FnA) : Prop := ∀ a ∈ al, UnfS w S a.C ∧ UnfS w S a.S
theorem UnfOk.keep {w w' : World} {S S' : Nat → Prop} {al : List FnA} (h : UnfOk w S al) (hk : ∀ b, S b → w'.heap[b]? = w.heap[b]?) (hs : ∀ b, S b → S' b) : UnfOk w' S' al := fun a ha => ⟨(h a ha).1.keep hk hs, (h a ha).2.keep hk hs⟩
theorem UnfOk.snoc {w : World} {S : Nat → Prop} {al : List FnA} {a : FnA} (h : UnfOk w S al) (h1 : UnfS w S a.C) (h2 : UnfS w S a.S) : UnfOk w S (al ++ [a]) := by
  intro b hb
  rw [List.mem_append, List.mem_singleton] at hb
  rcases hb with hb | rfl
  · exact h b hb
  · exact ⟨h1, h2⟩
/-- A program in new blocks that may be written. -/
def FnsNewU (w : World) (B : Nat) (A : Option Addr) (fs : List Fn) : Prop := ∃ al, FnsAt w (fun b => B ≤ b ∧ b < w.heap.size) al fs ∧ RowS w (fun b => B ≤ b ∧ b < w.heap.size) A (al.flatMap fnaVals) ∧ UnfOk w (fun b => B ≤ b ∧ b < w.heap.size) al
theorem FnsNewU.new {w : World} {B : Nat} {A : Option Addr} {fs : List Fn} (h : FnsNewU w B A fs) : FnsNew w B A fs := by
  obtain ⟨al, h1, h2, _⟩ := h
  exact ⟨al, h1, h2⟩
/-- What the loop of Clone has done behind k functions. -/
def CloneInv (w : World) (g : Nat) (gs : List Fn) (wr : World) : Prop :=
  ∃ (G : Option Addr) (cG : Nat) (al : List FnA), Blk wr g 24 #[.slice G gs.length cG] ∧ Own wr (g + 1) 31 2 G gs.length cG (al.flatMap fnaVals) ∧ FnsAt wr (Off wr g G) al gs ∧ UnfOk wr (Off wr g G) al ∧ Below w.heap.size w wr
section
variable {w wz w1 : World} {k cG c2 g0 : Nat} {G A' : Option Addr} {al : List FnA} {gs : List Fn} {a' : FnA} {f' : Fn} {o : Obj}
theorem clonePush (hg0 : w.heap.size ≤ g0) (h1 : Blk wz g0 24 #[.slice G k cG]) (h2 : Own wz (g0 + 1) 31 2 G k cG (al.flatMap fnaVals)) (h3 : FnsAt wz (Off wz g0 G) al gs) (h4 : FnS wz (Off wz g0 G) a' f') (h6 : UnfOk wz (Off wz g0 G) (al ++ [a'])) (h5 : Below w.heap.size w wz)
    (hk : gs.length = k) (hown : Own w1 (g0 + 1) 31 2 A' (k + 1) c2 (al.flatMap fnaVals ++ fnaVals a')) (hg : (wz.alloc o).grownBy w1 (ob G)) (hat : ob A' = ob G ∨ ob A' = some (wz.alloc o).heap.size) :
    CloneInv w g0 (gs ++ [f']) (w1.setCell ⟨g0, 0, none⟩ (.slice A' (k + 1) c2)) := by
  refine ⟨A', c2, al ++ [a'], ?_, ?_, (h3.push h4 hg hat).store 0 _, ?_, (below_append h5 h2 (by omega) h5.size hg).setCell (show _ ≤ g0 by omega) _⟩
  · have := (after_append h1 hg h2 (by omega)).1.set_ 0 (.slice A' (k + 1) c2)
    rw [List.length_append, hk]
    simpa using this
  · rw [List.length_append, hk, List.flatMap_append]
    simpa using hown.setCell ⟨g0, 0, none⟩ (.slice A' (k + 1) c2) (hown.ne_lt (by simp))
  · refine h6.keep (fun b hS => ?_) (fun b hS => ⟨?_, hS.2.1, ?_⟩)
    · exact (Below.heap_setCell _ _ _ _ (Nat.ne_of_gt hS.2.1)).trans ((hg.block b (by rw [World.size_alloc]; have := hS.1; omega) (fun e => hS.2.2 e.symm)).trans (Below.heap_alloc _ _ _ hS.1))
    · have h7 := hg.size
      rw [World.size_alloc] at h7
      have h8 := hS.1
      have h9 : b < w1.heap.size := by omega
      simpa [World.setCell] using h9
    · rcases hat with e | e
      · rw [e]; exact hS.2.2
      · rw [e, World.size_alloc]
        intro e'
        injection e' with e'
        have := hS.1
        omega
theorem cloneDone {wr : World} {B cG : Nat} {al : List FnA} (hB : B ≤ g0) (h2 : Own wr (g0 + 1) 31 2 G k cG (al.flatMap fnaVals)) (h3 : FnsAt wr (Off wr g0 G) al gs) (h4 : UnfOk wr (Off wr g0 G) al) (v : Value) : FnsNewU (wr.setCell ⟨g0, 0, none⟩ v) B G gs :=
  ⟨al, (h3.store 0 v).mono fun _ hb => ⟨by have := hb.2.1; omega, hb.1⟩, (h2.setCell ⟨g0, 0, none⟩ v (h2.ne_lt (by simp))).rowS.mono fun _ hb => ⟨by omega, hb.2⟩, h4.keep (fun b hS => Below.heap_setCell _ _ _ _ (Nat.ne_of_gt hS.2.1)) (fun b hS => ⟨by have := hS.2.1; omega, by simpa [World.setCell] using hS.1⟩)⟩
theorem cells2c {w : World} {x y : Value} {ad : Addr} (h0 : w.cell? (ad.add 0) = some x) (h1 : w.cell? (ad.add 1) = some y) : ∀ j u, [x, y][j]? = some u → w.cell? (ad.add j) = some u := by
  intro j u hu
  match j, hu with
  | 0, hu => simp at hu; rw [← hu]; exact h0
  | 1, hu => simp at hu; rw [← hu]; exact h1
end
set_option maxHeartbeats 4000000 in
set_option maxRecDepth 100000 in
theorem codeClone_any (A : Option Addr) (c : Nat) (fs : List Fn) (w : World) (hm : fs.length ≤ 100) (hlight : ∀ f ∈ fs, f.code.length ≤ 100 ∧ f.safe.length ≤ 100) (hf : FnsOk w w.heap.size A fs) :
    Calls Tryd.prog 9 #[.agg #[.slice A fs.length c]] w fun e w' => ∃ A' c', e = .returned (.agg #[.slice A' fs.length c']) ∧ FnsNewU w' w.heap.size A' fs ∧ Below w.heap.size w w' := by
  generalize hn : fs.length = n at *
  obtain ⟨i0, hi, hz0, hz1, hz2⟩ := info_parts Tryd.infoFn7
  have HI0 := Lib.hid hi
  have HZ0 := Lib.hid hz0
  have HZ1 := Lib.hid hz1
  have HZ2 := Lib.hid hz2
  have HN := Lib.hid hn
  have HF := Lib.hid hf
  have HL := Lib.hid hlight
  clear hi hz0 hz1 hz2 hn hf hlight
  have hst : CloneInv w (w.heap.size + 1) [] ((w.alloc (.cells #[.slice A n c] 24)).alloc (.cells #[.slice none 0 0] 24)) := by
    have h := Blk.new (w.alloc (.cells #[.slice A n c] 24)) 24 #[.slice none 0 0]
    rw [World.size_alloc] at h
    exact ⟨none, 0, [], h, Own.nil _ _ _ _, FnsAt.nil _ _, (fun a ha => by cases ha), ((Below.refl _ _).alloc (Nat.le_refl _) _).alloc (by simp) _⟩
  have HST := Lib.hid hst
  clear hst
  go_enter Tryd.func9, Tryd.ntmps9
  go_wp2_with fail
  have hg : ∃ g : Nat, Hid (g = w.heap.size + 1) := ⟨_, rfl⟩
  obtain ⟨g, HG⟩ := hg
  rw [← HG.out]
  rw [← HG.out] at HST
  go_loopw [8] (fun vi wr => ∃ k : Nat, k ≤ n ∧ vi = .int .i64 k ∧ Hid (CloneInv w g (fs.take k) wr)) (fun vi _ => n - (intOf vi).toNat)
  case atStart => exact ⟨0, by omega, rfl, by rw [List.take_zero]; exact HST⟩
  case round =>
    obtain ⟨k, hk, rfl, HI⟩ := hrel
    clear HST
    obtain ⟨G, cG, al, hG1, hG2, hG3, hGU, hG4⟩ := HI.out
    have htl : (fs.take k).length = k := by rw [List.length_take, HN.out]; omega
    rw [htl] at hG1 hG2
    have HG1 := Lib.hid hG1
    have HG2 := Lib.hid hG2
    have HG3 := Lib.hid hG3
    have HG4 := Lib.hid hG4
    have HGU := Lib.hid hGU
    have hgl : g < wr.heap.size := hG1.lt
    have q0 := hG1.cell 0
    simp only [List.getElem?_toArray, List.getElem?_cons_zero] at q0
    have qf0 := hG1.frozen 0
    clear hG1 hG2 hG3 hG4 hGU htl HI
    by_cases hlt : k < n
    · have hkl : k < fs.length := by rw [HN.out]; exact hlt
      obtain ⟨b, off, a, eA, hbb, c0, c1, hfn⟩ := (HF.out.below HG4.out).at_ k hkl
      subst eA
      have HFN := Lib.hid hfn
      have HLK := Lib.hid (HL.out fs[k] (List.getElem_mem hkl))
      have HTK := Lib.hid (List.take_succ_eq_append_getElem hkl)
      generalize fs[k] = f at *
      obtain ⟨C, fn, fc, S, fm, fd⟩ := a
      simp only at c0 c1
      have hbl : b < wr.heap.size := Nat.lt_of_lt_of_le hbb HG4.out.size
      clear hfn hbb
      have hw1 : ∃ w1 : World, Hid (w1 = wr.alloc (.cells #[.slice C fn fc, .slice S fm fd] 31)) := ⟨_, rfl⟩
      obtain ⟨w1, HW1⟩ := hw1
      go_wp2_with fail
      rw [← HW1.out]
      have hgf : ∃ gF : Nat, Hid (gF = wr.heap.size) := ⟨_, rfl⟩
      obtain ⟨gF, HGF⟩ := hgf
      rw [← HGF.out]
      have HBF := Lib.hid (show Blk w1 gF 31 #[.slice C fn fc, .slice S fm fd] by rw [HW1.out, HGF.out]; exact Blk.new _ _ _)
      have HB1 := Lib.hid (show Below wr.heap.size wr w1 by rw [HW1.out]; exact (Below.refl _ _).alloc (Nat.le_refl _) _)
      have HZ := Lib.hid (show w1.heap.size = gF + 1 by rw [HW1.out, HGF.out]; simp)
      have HNEF := Lib.hid (show ob G ≠ some gF from HG2.out.ne_ge (by rw [HGF.out]; exact Nat.le_refl _))
      have HP1 := Lib.hid (HG1.out.below HB1.out HG1.out.lt)
      have hSC : ∀ w', Below w1.heap.size w1 w' → S3c g gF (.slice G k cG) (.slice C fn fc) (.slice S fm fd) w' := fun w' h => by
        have a0 := (HP1.out.below h HP1.out.lt).cell 0
        have a1 := (HBF.out.below h HBF.out.lt).cell 0
        have a2 := (HBF.out.below h HBF.out.lt).cell 1
        simp only [List.getElem?_toArray, List.getElem?_cons_zero, List.getElem?_cons_succ] at a0 a1 a2
        exact ⟨a0, a1, a2⟩
      have HSC := Lib.hid hSC
      clear hSC
      have F0 : ∀ w' : World, (S3c g gF (.slice G k cG) (.slice C fn fc) (.slice S fm fd) w') → w'.cell? ⟨g, 0, none⟩ = some (.slice G k cG) := fun _ h => h.1
      have F1 : ∀ w' : World, (S3c g gF (.slice G k cG) (.slice C fn fc) (.slice S fm fd) w') → w'.cell? ⟨gF, 0, none⟩ = some (.slice C fn fc) := fun _ h => h.2.1
      have F2 : ∀ w' : World, (S3c g gF (.slice G k cG) (.slice C fn fc) (.slice S fm fd) w') → w'.cell? ⟨gF, 1, none⟩ = some (.slice S fm fd) := fun _ h => h.2.2
      have HCL := Lib.hid (show f.code.length = fn ∧ f.safe.length = fm from ⟨HFN.out.1.symm, HFN.out.2.1.symm⟩)
      have hfn100 : fn ≤ 100 := by have := HCL.out.1; have := HLK.out.1; omega
      have hfm100 : fm ≤ 100 := by have := HCL.out.2; have := HLK.out.2; omega
      refine region_schE (S3c g gF (.slice G k cG) (.slice C fn fc) (.slice S fm fd)) [([0, 1, 2, 3, 5, 6], 4), ([], 7), ([8], 9), ([], 10)] [11] 12 (by kernel_rfl) (by kernel_rfl) (by kernel_rfl) (fun _ _ d _ _ h => by cases d <;> exact h) (HSC.out _ (Below.refl _ _).drew) ?_
      (try simp only [Act.put, List.setIfInBounds_toArray, List.set_cons_zero, List.set_cons_succ]); refine schE_seg ?_; simp only [pickOps, List.getElem?_toArray, List.getElem?_cons_zero, List.getElem?_cons_succ]; (repeat (first | go_big_quiet_skip | (go_big_quiet_want; first | (go_big_quiet_op; first | go_big_quiet_on | ((first | with_reducible refine ⟨_, fun _ _ => rfl, ?_⟩); go_big_quiet_on)) | (simp (contextual := true) [go_sem, F0, F1, F2]; with_reducible refine ⟨_, fun _ _ => rfl, ?_⟩; go_big_quiet_on)))); refine wpQuiet_nil ?_
      go_wp2_with fail
      have HBW := Lib.hid (HB1.out.trans ((Below.refl w1.heap.size w1).drew.mono HB1.out.size))
      refine (clone_any C fn fc f.code w1.drew HCL.out.1 hfn100 ((HFN.out.2.2.1.below (HBW.out.mono HG4.out.size)).more (Nat.le_trans HG4.out.size HBW.out.size))).mono ?_
      rintro e w2 ⟨C', c', rfl, hO2, hb2⟩
      have HB2 := Lib.hid (show Below w1.heap.size w1 w2 from (Below.refl w1.heap.size w1).drew.trans hb2)
      have HO2 := Lib.hid (show Own w2 w1.heap.size 33 5 C' fn c' (f.code.flatMap insVals) from hO2)
      clear hO2 hb2
      go_wp2_with fail
      refine ⟨S3c g gF (.slice G k cG) (.slice C fn fc) (.slice S fm fd), HSC.out _ HB2.out, fun _ h => h, ?_⟩
      (try simp only [Act.put, List.setIfInBounds_toArray, List.set_cons_zero, List.set_cons_succ]); refine schE_seg ?_; simp only [pickOps, List.getElem?_toArray, List.getElem?_cons_zero, List.getElem?_cons_succ]; (repeat (first | go_big_quiet_skip | (go_big_quiet_want; first | (go_big_quiet_op; first | go_big_quiet_on | ((first | with_reducible refine ⟨_, fun _ _ => rfl, ?_⟩); go_big_quiet_on)) | (simp (contextual := true) [go_sem, F0]; with_reducible refine ⟨_, fun _ _ => rfl, ?_⟩; go_big_quiet_on)))); refine wpQuiet_nil ?_
      go_wp2_with fail
      have HBW2 := Lib.hid (HB1.out.trans (HB2.out.mono HB1.out.size))
      refine (cloneB_any S fm fd f.safe w2 HCL.out.2 hfm100 ((HFN.out.2.2.2.1.below (HBW2.out.mono HG4.out.size)).more (Nat.le_trans HG4.out.size HBW2.out.size))).mono ?_
      rintro e w3 ⟨S', c'', rfl, hO3, hb3⟩
      have HB3 := Lib.hid (HB2.out.trans (hb3.mono HB2.out.size))
      have HO3 := Lib.hid (hO3.base_le (base' := w1.heap.size) HB2.out.size)
      have HC3 := Lib.hid (HO2.out.kept (grown_below hb3 none) (by cases C' with | none => exact .inl rfl | some q => right; intro h; cases h))
      clear hO3 hb3
      go_wp2_with fail
      refine ⟨S3c g gF (.slice G k cG) (.slice C fn fc) (.slice S fm fd), HSC.out _ HB3.out, fun _ h => h, ?_⟩
      (try simp only [Act.put, List.setIfInBounds_toArray, List.set_cons_zero, List.set_cons_succ]); refine schE_seg ?_; simp only [pickOps, List.getElem?_toArray, List.getElem?_cons_zero, List.getElem?_cons_succ]; (repeat (first | go_big_quiet_skip | (go_big_quiet_want; first | (go_big_quiet_op; first | go_big_quiet_on | ((first | with_reducible refine ⟨_, fun _ _ => rfl, ?_⟩); go_big_quiet_on)) | (simp (contextual := true) [go_sem, F0]; with_reducible refine ⟨_, fun _ _ => rfl, ?_⟩; go_big_quiet_on)))); refine wpQuiet_nil ?_
      have hw4 : ∃ w4 : World, Hid (w4 = w3.alloc (.cells #[.slice C' fn c', .slice S' fm c''] 31)) := ⟨_, rfl⟩
      obtain ⟨w4, HW4⟩ := hw4
      go_wp2_with fail
      rw [← HW4.out]
      have HB4 := Lib.hid (show Below w1.heap.size w1 w4 by rw [HW4.out]; exact HB3.out.alloc HB3.out.size _)
      refine ⟨S3c g gF (.slice G k cG) (.slice C fn fc) (.slice S fm fd), HSC.out _ HB4.out, fun _ h => h, ?_⟩
      (try simp only [Act.put, List.setIfInBounds_toArray, List.set_cons_zero, List.set_cons_succ]); refine schE_seg ?_; simp only [pickOps, List.getElem?_toArray, List.getElem?_cons_zero, List.getElem?_cons_succ]; (repeat (first | go_big_quiet_skip | (go_big_quiet_want; first | (go_big_quiet_op; first | go_big_quiet_on | ((first | with_reducible refine ⟨_, fun _ _ => rfl, ?_⟩); go_big_quiet_on)) | (simp (contextual := true) [go_sem, F0]; with_reducible refine ⟨_, fun _ _ => rfl, ?_⟩; go_big_quiet_on)))); refine wpQuiet_nil ?_
      have HBG3 := Lib.hid (HB1.out.trans (HB3.out.mono HB1.out.size))
      have HP3 := Lib.hid (HG1.out.below HBG3.out HG1.out.lt)
      have HG3o := Lib.hid (HG2.out.kept (grown_below HBG3.out none) (by cases G with | none => exact .inl rfl | some q => right; intro h; cases h))
      have HG3f := Lib.hid (HG3.out.below HBG3.out)
      have c1' : Hid (k + 1 ≤ maxLen) := by unfold maxLen; show _ ≤ _; omega
      have HBX := Lib.hid (show ∀ j u, (fnaVals ⟨C', fn, c', S', fm, c''⟩)[j]? = some u → w4.cell? ((⟨w3.heap.size, 0, none⟩ : Addr).add j) = some u by
        have hb := Blk.new w3 31 #[.slice C' fn c', .slice S' fm c'']
        rw [← HW4.out] at hb
        have a0 := hb.cell 0
        have a1 := hb.cell 1
        simp only [List.getElem?_toArray, List.getElem?_cons_zero, List.getElem?_cons_succ] at a0 a1
        exact cells2c (by rw [Addr.add_lit]; exact a0) (by rw [Addr.add_lit]; exact a1))
      have HO4 := Lib.hid (show Own w4 (g + 1) 31 2 G k cG (al.flatMap fnaVals) by rw [HW4.out]; exact HG3o.out.alloc _)
      have hz4 : g + 1 ≤ w4.heap.size := by have := (HP3.out.alloc (.cells #[.slice C' fn c', .slice S' fm c''] 31)).lt; rw [← HW4.out] at this; omega
      have HZ4 := Lib.hid hz4
      clear hz4
      go_wp2_with (at_builtin; go_must (refine wpList_append_1 _ rfl _ _ 22 rfl (g + 1) 31 i0 _ 2 48 Tryd.underlying22 HI0.out HZ0.out HZ1.out HZ2.out rfl (by decide) _ _ _ _ rfl HO4.out ⟨w3.heap.size, 0, none⟩ 1 (fnaVals ⟨C', fn, c', S', fm, c''⟩) rfl rfl HBX.out (by simp [fnaVals, Value.oneCell']) c1'.out (by omega) HZ4.out ?_); intro A' c2' w5 hown1 hgrow1 hat1)
      have hgrow3 : (w3.alloc (.cells #[.slice C' fn c', .slice S' fm c''] 31)).grownBy w5 (ob G) := by rw [← HW4.out]; exact hgrow1
      have hat3 : ob A' = ob G ∨ ob A' = some (w3.alloc (.cells #[.slice C' fn c', .slice S' fm c''] 31)).heap.size := by rw [← HW4.out]; exact hat1
      have hP5 := (after_append HP3.out hgrow3 HG3o.out (Nat.lt_succ_self _)).1
      have hF5 := (HBF.out.below HB4.out HBF.out.lt).grown hgrow1 (fun e => HNEF.out e.symm)
      have a0 := hP5.cell 0
      have a1 := hF5.cell 0
      have a2 := hF5.cell 1
      simp only [List.getElem?_toArray, List.getElem?_cons_zero, List.getElem?_cons_succ] at a0 a1 a2
      have af := hP5.frozen 0
      have al5 := hP5.lt
      have HGR := Lib.hid hgrow3
      have HAT := Lib.hid hat3
      have HOW := Lib.hid hown1
      clear hgrow1 hgrow3 hat1 hat3 hown1 hP5 hF5
      refine ⟨S3c g gF (.slice G k cG) (.slice C fn fc) (.slice S fm fd), ⟨a0, a1, a2⟩, fun _ h => h, ?_⟩
      (try simp only [Act.put, List.setIfInBounds_toArray, List.set_cons_zero, List.set_cons_succ]); refine schE_last ?_; simp only [pickOps, List.getElem?_toArray, List.getElem?_cons_zero, List.getElem?_cons_succ]; (repeat (first | go_big_quiet_skip | (go_big_quiet_want; first | (go_big_quiet_op; first | go_big_quiet_on | ((first | with_reducible refine ⟨_, fun _ _ => rfl, ?_⟩); go_big_quiet_on)) | (simp (contextual := true) [go_sem, F0]; with_reducible refine ⟨_, fun _ _ => rfl, ?_⟩; go_big_quiet_on)))); refine wpQuiet_nil ?_
      clear F0 F1 F2
      go_wp2_with fail
      have htl : (fs.take k).length = k := by rw [List.length_take, HN.out]; omega
      have hgF : g < gF := by rw [HGF.out]; exact HG1.out.lt
      have hoff : ∀ b, w1.heap.size ≤ b → b < w3.heap.size → Off w3 g G b := fun b h1 h2 => by
        have := HZ.out
        refine ⟨h2, by omega, fun e => ?_⟩
        have h3 := (HG2.out.lt b e).2
        have := HGF.out
        omega
      refine ⟨⟨k + 1, by omega, by simp, ?_⟩, by simp [intOf]; omega⟩
      rw [HTK.out]
      exact clonePush (by rw [HG.out]; exact Nat.le_succ _) HP3.out HG3o.out HG3f.out ⟨HCL.out.1.symm, HCL.out.2.symm, HC3.out.rowS.mono (fun b hb => hoff b hb.1 hb.2), HO3.out.rowS.mono (fun b hb => hoff b hb.1 hb.2), by unfold maxLen; show fn ≤ _; omega, by unfold maxLen; show fm ≤ _; omega, HFN.out.2.2.2.2.2.2⟩ (UnfOk.snoc (HGU.out.keep (fun b hS => HBG3.out.block b hS.1) (fun b hS => ⟨Nat.lt_of_lt_of_le hS.1 HBG3.out.size, hS.2⟩)) (HC3.out.unf.keep (fun _ _ => rfl) (fun b hb => hoff b hb.1 hb.2)) (HO3.out.unf.keep (fun _ _ => rfl) (fun b hb => hoff b hb.1 hb.2))) (HG4.out.trans (HBG3.out.mono HG4.out.size)) htl HOW.out HGR.out HAT.out
    · have hkf : fs.take k = fs := List.take_of_length_le (by rw [HN.out]; omega)
      have hkn : k = n := by omega
      subst hkn
      rw [hkf] at HG3
      clear hkf
      go_wp2_with fail
      refine bodyPost_ret (v := .agg #[.slice G k cG]) (by simp [results, Tryd.results9, go_sem, q0]) rfl ⟨G, cG, rfl, ?_, HG4.out.setCell (by rw [HG.out]; exact Nat.le_succ _) _⟩
      exact cloneDone (by rw [HG.out]; exact Nat.le_succ _) HG2.out HG3.out HGU.out _
end Go.Proofs.YthcbceaeobnmgaaDoor

/-
  Chapter 7: contracts of slices.IndexFunc, ContainsFunc as code.Fits calls them, and of code.Fits. Conditions: the table is laid, the program lies in memory.
-/
import Derived.Test.YthcbceaeobnmgaaDoorFit7
namespace Go.Proofs.YthcbceaeobnmgaaDoor
open Go.RowKit
theorem any_take_succ {α : Type} (p : α → Bool) (l : List α) (k : Nat) (h : k < l.length) (h0 : (l.take k).any p = false) (h1 : p l[k] = false) : (l.take (k + 1)).any p = false := by
  rw [List.take_succ_eq_append_getElem h, List.any_append, h0]
  simp [h1]
theorem any_of_at {α : Type} (p : α → Bool) (l : List α) (k : Nat) (h : k < l.length) (h1 : p l[k] = true) : l.any p = true := by
  rw [List.any_eq_true]
  exact ⟨_, List.getElem_mem h, h1⟩
/-- The first place, or -1: what is told of it. -/
def IdxOk (b : Bool) (z : Int) : Prop := (b = true ∧ 0 ≤ z) ∨ (b = false ∧ z = -1)
theorem row_ins5 {w : World} {B : Nat} {C : Option Addr} {l : List Ins} (h : Row w B C (l.flatMap insVals)) (k : Nat) (hk : k < l.length) :
    ∃ b off, C = some ⟨b, off, none⟩ ∧ b < B ∧ w.cell? ⟨b, off + k * 5, none⟩ = some (.int .i64 l[k].op) ∧ w.cell? ⟨b, off + k * 5 + 1, none⟩ = some (.int .i64 l[k].a) ∧ w.cell? ⟨b, off + k * 5 + 2, none⟩ = some (.int .i64 l[k].b) ∧ w.cell? ⟨b, off + k * 5 + 3, none⟩ = some (.int .i64 l[k].c) ∧ w.cell? ⟨b, off + k * 5 + 4, none⟩ = some (.int .i64 l[k].n) := by
  obtain ⟨b, off, e, hb, hc⟩ := h.at_ (k := k * 5) (by rw [flat_length insVals_len]; omega)
  have g : ∀ j v, (insVals l[k])[j]? = some v → w.cell? ⟨b, off + (k * 5 + j), none⟩ = some v := fun j v hv => hc _ _ (flat_at insVals_len l k j _ _ (List.getElem?_eq_getElem hk) hv)
  exact ⟨b, off, e, hb, g 0 _ rfl, by rw [Nat.add_assoc]; exact g 1 _ rfl, by rw [Nat.add_assoc]; exact g 2 _ rfl, by rw [Nat.add_assoc]; exact g 3 _ rfl, by rw [Nat.add_assoc]; exact g 4 _ rfl⟩
set_option maxHeartbeats 2000000 in
theorem idxIns_any (C : Option Addr) (n c : Nat) (l : List Ins) (w : World) (hT : Tab w) (hl : l.length = n) (hn : n ≤ maxLen) (hr : Row w w.heap.size C (l.flatMap insVals)) :
    Calls Tryd.prog 46 #[.slice C n c, .func (.func 29) #[] #[]] w fun e w' => (∃ z, e = .returned (.int .i64 z) ∧ IdxOk (l.any fun i => !fitsI i) z) ∧ Below w.heap.size w w' := by
  unfold maxLen at hn
  have HT := Lib.hid hT
  have HL := Lib.hid hl
  have HR := Lib.hid hr
  clear hT hl hr
  go_enter Tryd.func46, Tryd.ntmps46
  go_wp2_with fail
  go_loopw [8] (fun vi wr => ∃ k : Nat, k ≤ n ∧ vi = .int .i64 k ∧ (l.take k).any (fun i => !fitsI i) = false ∧ Below w.heap.size w wr) (fun vi _ => n - (intOf vi).toNat)
  case atStart => exact ⟨0, Nat.zero_le _, rfl, rfl, Below.refl _ _⟩
  case round =>
    obtain ⟨k, hk, rfl, ht, hbw⟩ := hrel
    have HA := Lib.hid ht
    have HB := Lib.hid hbw
    clear ht hbw
    by_cases hlt : k < n
    · have hkl : k < l.length := by rw [HL.out]; exact hlt
      obtain ⟨b, off, rfl, hbl, c0, c1, c2, c3, c4⟩ := row_ins5 (HR.out.below HB.out) k hkl
      have HX := Lib.hid (notfits_any l[k] wr (HT.out.step HB.out))
      have HY := Lib.hid (show (!fitsI l[k]) = false → (l.take (k + 1)).any (fun i => !fitsI i) = false from fun h => any_take_succ (fun i => !fitsI i) l k hkl HA.out h)
      have HZ := Lib.hid (show (!fitsI l[k]) = true → l.any (fun i => !fitsI i) = true from fun h => any_of_at (fun i => !fitsI i) l k hkl h)
      generalize l[k] = i at *
      generalize (!fitsI i) = x at *
      obtain ⟨op, ia, ib, ic, inn⟩ := i
      simp only at c0 c1 c2 c3 c4 HX
      cases x with
      | true =>
        go_wp2_with fail
        refine HX.out.mono ?_
        rintro e w1 ⟨rfl, hb1⟩
        have HB1 := Lib.hid (HB.out.trans (hb1.mono HB.out.size))
        clear hb1
        go_wp2_with fail
        go_ret
        exact ⟨⟨_, rfl, .inl ⟨HZ.out (by trivial), by omega⟩⟩, HB1.out⟩
      | false =>
        go_wp2_with fail
        refine HX.out.mono ?_
        rintro e w1 ⟨rfl, hb1⟩
        have HB1 := Lib.hid (HB.out.trans (hb1.mono HB.out.size))
        clear hb1
        go_wp2_with fail
        exact ⟨⟨k + 1, by omega, by simp, HY.out (by trivial), HB1.out⟩, by simp [intOf]; omega⟩
    · have HE := Lib.hid (show l.any (fun i => !fitsI i) = false by have := HA.out; rw [List.take_of_length_le (by rw [HL.out]; omega)] at this; exact this)
      go_wp2_with fail
      go_ret
      exact ⟨⟨_, rfl, .inr ⟨HE.out, rfl⟩⟩, HB.out⟩
theorem conIns_any (C : Option Addr) (n c : Nat) (l : List Ins) (w : World) (hT : Tab w) (hl : l.length = n) (hn : n ≤ maxLen) (hr : Row w w.heap.size C (l.flatMap insVals)) :
    Calls Tryd.prog 28 #[.slice C n c, .func (.func 29) #[] #[]] w fun e w' => e = .returned (.bool (l.any fun i => !fitsI i)) ∧ Below w.heap.size w w' := by
  have HX := Lib.hid (idxIns_any C n c l w hT hl hn hr)
  generalize (l.any fun i => !fitsI i) = q at *
  clear hT hl hn hr
  go_enter Tryd.func28, Tryd.ntmps28
  go_wp2_with fail
  refine HX.out.mono ?_
  rintro e w1 ⟨⟨z, rfl, hz⟩, hb1⟩
  rcases hz with ⟨rfl, h2⟩ | ⟨rfl, rfl⟩
  · have h3 : decide (0 ≤ z) = true := by simpa using h2
    clear h2
    go_wp2_with fail
    go_ret
    exact ⟨rfl, hb1⟩
  · go_wp2_with fail
    go_ret
    exact ⟨rfl, hb1⟩
set_option maxHeartbeats 2000000 in
theorem notF_any (a : FnA) (f : Fn) (w : World) (hT : Tab w) (hf : FnOk w w.heap.size a f) :
    Calls Tryd.prog 27 #[.agg #[.slice a.C a.n a.c, .slice a.S a.m a.d]] w fun e w' => e = .returned (.bool (!fitsF f)) ∧ Below w.heap.size w w' := by
  obtain ⟨C, n, c, S, m, d⟩ := a
  obtain ⟨e1, e2, e3, e4, e5, e6, e7⟩ := hf
  simp only at e1 e2 e3 e4 e5 e6
  have hW : ∃ W : World, Hid (W = w.alloc (.cells #[.slice C n c, .slice S m d] 31)) := ⟨_, rfl⟩
  obtain ⟨W, HW⟩ := hW
  have hb : Below w.heap.size w W := by rw [HW.out]; exact (Below.refl _ _).alloc (Nat.le_refl _) _
  have HB := Lib.hid hb
  have HX := Lib.hid (conIns_any C n c f.code W (hT.step hb) e1.symm e5 ((e3.below hb).more hb.size))
  have hbf : Blk W w.heap.size 31 #[.slice C n c, .slice S m d] := by rw [HW.out]; exact Blk.new _ _ _
  have j0 := hbf.cell 0
  have j1 := hbf.cell 1
  simp only [List.getElem?_toArray, List.getElem?_cons_zero, List.getElem?_cons_succ] at j0 j1
  have hv : (!fitsF f) = (decide (64 < (n : Int)) || ((m : Int) != n || f.code.any fun i => !fitsI i)) := by
    have h3 : (f.code.any fun i => !fitsI i) = !f.code.all fitsI := by rw [List.not_all_eq_any_not]
    unfold fitsF
    rw [h3, e1, e2]
    cases f.code.all fitsI
    · simp
    · by_cases h1 : f.code.length ≤ 64
      · by_cases h2 : f.safe.length = f.code.length
        · simp [h1, h2]
          omega
        · simp [h1, h2]
          omega
      · simp [h1]
        omega
  rw [hv]
  generalize (f.code.any fun i => !fitsI i) = q at *
  clear hT e1 e2 e3 e4 e5 e6 e7 hb hbf hv
  go_enter Tryd.func27, Tryd.ntmps27
  cases h1 : decide (64 < (n : Int)) with
  | true =>
    go_wp2_with fail
    go_ret
    exact ⟨rfl, by rw [← HW.out]; exact HB.out⟩
  | false =>
    cases h2 : ((m : Int) != n) with
    | true =>
      go_wp2_with fail
      go_ret
      exact ⟨rfl, by rw [← HW.out]; exact HB.out⟩
    | false =>
      go_wp2_with fail
      rw [← HW.out]
      refine HX.out.mono ?_
      rintro e w1 ⟨rfl, hb1⟩
      go_wp2_with fail
      go_ret
      exact ⟨rfl, HB.out.trans (hb1.mono HB.out.size)⟩
set_option maxHeartbeats 2000000 in
theorem idxFn_any (A : Option Addr) (n c : Nat) (fs : List Fn) (w : World) (hT : Tab w) (hl : fs.length = n) (hn : n ≤ maxLen) (hf : FnsOk w w.heap.size A fs) :
    Calls Tryd.prog 45 #[.slice A n c, .func (.func 27) #[] #[]] w fun e w' => (∃ z, e = .returned (.int .i64 z) ∧ IdxOk (fs.any fun f => !fitsF f) z) ∧ Below w.heap.size w w' := by
  unfold maxLen at hn
  have HT := Lib.hid hT
  have HL := Lib.hid hl
  have HF := Lib.hid hf
  clear hT hl hf
  go_enter Tryd.func45, Tryd.ntmps45
  go_wp2_with fail
  go_loopw [8] (fun vi wr => ∃ k : Nat, k ≤ n ∧ vi = .int .i64 k ∧ (fs.take k).any (fun f => !fitsF f) = false ∧ Below w.heap.size w wr) (fun vi _ => n - (intOf vi).toNat)
  case atStart => exact ⟨0, Nat.zero_le _, rfl, rfl, Below.refl _ _⟩
  case round =>
    obtain ⟨k, hk, rfl, ht, hbw⟩ := hrel
    have HA := Lib.hid ht
    have HB := Lib.hid hbw
    clear ht hbw
    by_cases hlt : k < n
    · have hkl : k < fs.length := by rw [HL.out]; exact hlt
      obtain ⟨b, off, a, eA, hbb, c0, c1, hfn⟩ := (HF.out.step HB.out).at_ k hkl
      subst eA
      have HX := Lib.hid (notF_any a fs[k] wr (HT.out.step HB.out) hfn)
      have HY := Lib.hid (show (!fitsF fs[k]) = false → (fs.take (k + 1)).any (fun i => !fitsF i) = false from fun h => any_take_succ (fun i => !fitsF i) fs k hkl HA.out h)
      have HZ := Lib.hid (show (!fitsF fs[k]) = true → fs.any (fun i => !fitsF i) = true from fun h => any_of_at (fun i => !fitsF i) fs k hkl h)
      clear hfn
      generalize fs[k] = f at *
      generalize (!fitsF f) = x at *
      obtain ⟨C, fn, fc, S, fm, fd⟩ := a
      simp only at c0 c1 HX
      cases x with
      | true =>
        go_wp2_with fail
        refine HX.out.mono ?_
        rintro e w1 ⟨rfl, hb1⟩
        have HB1 := Lib.hid (HB.out.trans (hb1.mono HB.out.size))
        clear hb1
        go_wp2_with fail
        go_ret
        exact ⟨⟨_, rfl, .inl ⟨HZ.out (by trivial), by omega⟩⟩, HB1.out⟩
      | false =>
        go_wp2_with fail
        refine HX.out.mono ?_
        rintro e w1 ⟨rfl, hb1⟩
        have HB1 := Lib.hid (HB.out.trans (hb1.mono HB.out.size))
        clear hb1
        go_wp2_with fail
        exact ⟨⟨k + 1, by omega, by simp, HY.out (by trivial), HB1.out⟩, by simp [intOf]; omega⟩
    · have HE := Lib.hid (show fs.any (fun i => !fitsF i) = false by have := HA.out; rw [List.take_of_length_le (by rw [HL.out]; omega)] at this; exact this)
      go_wp2_with fail
      go_ret
      exact ⟨⟨_, rfl, .inr ⟨HE.out, rfl⟩⟩, HB.out⟩
theorem conFn_any (A : Option Addr) (n c : Nat) (fs : List Fn) (w : World) (hT : Tab w) (hl : fs.length = n) (hn : n ≤ maxLen) (hf : FnsOk w w.heap.size A fs) :
    Calls Tryd.prog 26 #[.slice A n c, .func (.func 27) #[] #[]] w fun e w' => e = .returned (.bool (fs.any fun f => !fitsF f)) ∧ Below w.heap.size w w' := by
  have HX := Lib.hid (idxFn_any A n c fs w hT hl hn hf)
  generalize (fs.any fun f => !fitsF f) = q at *
  clear hT hl hn hf
  go_enter Tryd.func26, Tryd.ntmps26
  go_wp2_with fail
  refine HX.out.mono ?_
  rintro e w1 ⟨⟨z, rfl, hz⟩, hb1⟩
  rcases hz with ⟨rfl, h2⟩ | ⟨rfl, rfl⟩
  · have h3 : decide (0 ≤ z) = true := by simpa using h2
    clear h2
    go_wp2_with fail
    go_ret
    exact ⟨rfl, hb1⟩
  · go_wp2_with fail
    go_ret
    exact ⟨rfl, hb1⟩
set_option maxHeartbeats 2000000 in
theorem codeFits_any (A : Option Addr) (c : Nat) (fs : List Fn) (w : World) (hT : Tab w) (hn : fs.length ≤ maxLen) (hf : FnsOk w w.heap.size A fs) :
    Calls Tryd.prog 13 #[.agg #[.slice A fs.length c]] w fun e w' => e = .returned (.bool (fitsP fs)) ∧ Below w.heap.size w w' := by
  have hW : ∃ W : World, Hid (W = w.alloc (.cells #[.slice A fs.length c] 24)) := ⟨_, rfl⟩
  obtain ⟨W, HW⟩ := hW
  have hb : Below w.heap.size w W := by rw [HW.out]; exact (Below.refl _ _).alloc (Nat.le_refl _) _
  have HB := Lib.hid hb
  have HX := Lib.hid (conFn_any A fs.length c fs W (hT.step hb) rfl hn (hf.step hb))
  have hbf : Blk W w.heap.size 24 #[.slice A fs.length c] := by rw [HW.out]; exact Blk.new _ _ _
  have j0 := hbf.cell 0
  simp only [List.getElem?_toArray, List.getElem?_cons_zero] at j0
  have hv : fitsP fs = (!decide (16 < (fs.length : Int)) && !fs.any fun f => !fitsF f) := by
    unfold fitsP
    rw [← List.all_eq_not_any_not]
    congr 1
    by_cases h : fs.length ≤ 16
    · simp [h]
      omega
    · simp [h]
      omega
  rw [hv]
  generalize (fs.any fun f => !fitsF f) = q at *
  unfold maxLen at hn
  generalize fs.length = n at *
  clear hT hf hb hbf hv
  go_enter Tryd.func13, Tryd.ntmps13
  cases h1 : decide (16 < (n : Int)) with
  | true =>
    go_wp2_with fail
    go_ret
    exact ⟨rfl, by rw [← HW.out]; exact HB.out⟩
  | false =>
    go_wp2_with fail
    rw [← HW.out]
    refine HX.out.mono ?_
    rintro e w1 ⟨rfl, hb1⟩
    go_wp2_with fail
    go_ret
    exact ⟨rfl, HB.out.trans (hb1.mono HB.out.size)⟩
end Go.Proofs.YthcbceaeobnmgaaDoor

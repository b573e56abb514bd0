/-
  Chapter 2, as chapter 14 uses it: contracts of cells.New, Len, Count, Load, Store, Cas. Conditions: the cells lie in memory, the place is one of theirs.
-/
import Derived.Test.YthnhjhlpimgkiaaRows
import Derived.Test.YthnhjhlpimgkiaaBlk
import Derived.Test.YthnhjhlpimgkiaaMem
import Derived.Test.YthnhjhlpimgkiaaOwn
import Derived.Test.YthnhjhlpimgkiaaSchE
import Derived.WalkSpells
import Derived.WalkLawsBesides
import Derived.Defers
import Derived.Tactics
import Derived.Tactics2
import Derived.Deep.OwnRows
namespace Go.Proofs.Ythnhjhlpimgkiaa
open Go.RowKit
/-- Cells in block gc, their numbers xs in block gl; cnt accesses there were. -/
structure CellsIs (w : World) (gc gl kc : Nat) (ex : List Value) (xs : List Int) (cnt : Nat) : Prop where
  head : Blk w gc 57 #[.slice (some ⟨gl, 0, none⟩) xs.length kc, .int .i64 cnt]
  row : Blk w gl 2 (ints xs ++ ex).toArray
  ne : gc ≠ gl
  small : cnt ≤ 1000000
  size : xs.length ≤ 4096
theorem two_ {w : World} {g : Nat} {t : TypeId} {x y : Value} (h : Blk w g t #[x, y]) : (w.cell? ⟨g, 0, none⟩ = some x ∧ w.cell? ⟨g, 1, none⟩ = some y) ∧ w.frozen? ⟨g, 0, none⟩ = false ∧ w.frozen? ⟨g, 1, none⟩ = false := by
  have q0 := h.cell 0
  have q1 := h.cell 1
  simp only [List.getElem?_toArray, List.getElem?_cons_zero, List.getElem?_cons_succ] at q0 q1
  exact ⟨⟨q0, q1⟩, h.frozen 0, h.frozen 1⟩
theorem one_ {w : World} {g : Nat} {t : TypeId} {x : Value} (h : Blk w g t #[x]) : w.cell? ⟨g, 0, none⟩ = some x ∧ w.frozen? ⟨g, 0, none⟩ = false := by
  have q0 := h.cell 0
  simp only [List.getElem?_toArray, List.getElem?_cons_zero] at q0
  exact ⟨q0, h.frozen 0⟩
theorem CellsIs.cell {w : World} {gc gl kc cnt : Nat} {ex : List Value} {xs : List Int} (h : CellsIs w gc gl kc ex xs cnt) (i : Nat) (hi : i < xs.length) : w.cell? ⟨gl, i, none⟩ = some (.int .i64 xs[i]) := by
  rw [h.row.cell i, List.getElem?_toArray, List.getElem?_append_left (by simpa [ints] using hi)]
  exact ints_at_ xs i hi
theorem CellsIs.kept {w w' : World} {gc gl kc cnt : Nat} {ex : List Value} {xs : List Int} {row : Option Nat} (h : CellsIs w gc gl kc ex xs cnt) (hg : w.grownBy w' row) (h1 : some gc ≠ row) (h2 : some gl ≠ row) : CellsIs w' gc gl kc ex xs cnt :=
  ⟨h.head.grown hg h1, h.row.grown hg h2, h.ne, h.small, h.size⟩
theorem CellsIs.below {w w' : World} {gc gl kc cnt : Nat} {ex : List Value} {xs : List Int} (h : CellsIs w gc gl kc ex xs cnt) (hb : Below w.heap.size w w') : CellsIs w' gc gl kc ex xs cnt :=
  ⟨h.head.below hb h.head.lt, h.row.below hb h.row.lt, h.ne, h.small, h.size⟩
/-- One access more, nothing else. -/
theorem CellsIs.counted {w : World} {gc gl kc cnt : Nat} {ex : List Value} {xs : List Int} (h : CellsIs w gc gl kc ex xs cnt) (hc : cnt < 1000000) : CellsIs (w.setCell ⟨gc, 1, none⟩ (.int .i64 ((cnt + 1 : Nat) : Int))) gc gl kc ex xs (cnt + 1) :=
  ⟨by simpa using h.head.set_ 1 (.int .i64 ((cnt + 1 : Nat) : Int)), h.row.far (p := ⟨gc, 1, none⟩) (fun e => h.ne e.symm) _, h.ne, by omega, h.size⟩
/-- Only blocks of L are written, others stay, new ones may come. -/
structure Mv (L : List Nat) (w w' : World) : Prop where
  os : w'.os = w.os
  tape : w'.tape = w.tape
  output : w'.output = w.output
  size : w.heap.size ≤ w'.heap.size
  block : ∀ k, k < w.heap.size → k ∉ L → w'.heap[k]? = w.heap[k]?
theorem Mv.refl (L : List Nat) (w : World) : Mv L w w := ⟨rfl, rfl, rfl, Nat.le_refl _, fun _ _ _ => rfl⟩
theorem Mv.trans {L : List Nat} {a b c : World} (h : Mv L a b) (k : Mv L b c) : Mv L a c :=
  ⟨k.os.trans h.os, k.tape.trans h.tape, k.output.trans h.output, Nat.le_trans h.size k.size, fun i hi hl => (k.block i (Nat.lt_of_lt_of_le hi h.size) hl).trans (h.block i hi hl)⟩
theorem Mv.mono {L L' : List Nat} {w w' : World} (h : Mv L w w') (hl : ∀ k ∈ L, k < w.heap.size → k ∈ L') : Mv L' w w' :=
  ⟨h.os, h.tape, h.output, h.size, fun k hk hn => h.block k hk (fun hm => hn (hl k hm hk))⟩
theorem Mv.of_below {L : List Nat} {w w' : World} {B : Nat} (h : Below B w w') (hB : w.heap.size ≤ B) : Mv L w w' := ⟨h.os, h.tape, h.output, h.size, fun k hk _ => h.block k (by omega)⟩
theorem Mv.low {L : List Nat} {w w' : World} {B : Nat} (h : Mv L w w') (hB : B ≤ w.heap.size) (hl : ∀ k ∈ L, B ≤ k) : Below B w w' :=
  ⟨h.os, h.tape, h.output, h.size, fun k hk => h.block k (by omega) (fun hm => by have := hl k hm; omega)⟩
theorem Mv.blk {L : List Nat} {w w' : World} {g : Nat} {t : TypeId} {cs : Array Value} (h : Mv L w w') (hb : Blk w g t cs) (hg : g ∉ L) : Blk w' g t cs := (h.block g hb.lt hg).trans hb
theorem Mv.set {L : List Nat} {w w' : World} (h : Mv L w w') (p : Addr) (v : Value) (hp : p.block ∈ L ∨ w.heap.size ≤ p.block) : Mv L w (w'.setCell p v) := by
  have hg := grown_set w' p v
  refine ⟨hg.os.trans h.os, hg.tape.trans h.tape, hg.output.trans h.output, Nat.le_trans h.size hg.size, fun k hk hn => (hg.block k (Nat.lt_of_lt_of_le hk h.size) ?_).trans (h.block k hk hn)⟩
  intro e
  injection e with e
  subst e
  rcases hp with hp | hp
  · exact hn hp
  · omega
theorem Mv.alloc {L : List Nat} {w w' : World} (h : Mv L w w') (o : Obj) : Mv L w (w'.alloc o) := h.trans (.of_below ((Below.refl w'.heap.size w').alloc (Nat.le_refl _) o) (Nat.le_refl _))
theorem Mv.drew {L : List Nat} {w w' : World} (h : Mv L w w') : Mv L w w'.drew := h.trans (.of_below (Below.refl w'.heap.size w').drew (Nat.le_refl _))
theorem CellsIs.mv {w w' : World} {L : List Nat} {gc gl kc cnt : Nat} {ex : List Value} {xs : List Int} (h : CellsIs w gc gl kc ex xs cnt) (hm : Mv L w w') (h1 : gc ∉ L) (h2 : gl ∉ L) : CellsIs w' gc gl kc ex xs cnt :=
  ⟨hm.blk h.head h1, hm.blk h.row h2, h.ne, h.small, h.size⟩
theorem clen_any {w : World} {gc gl kc cnt : Nat} {ex : List Value} {xs : List Int} (h : CellsIs w gc gl kc ex xs cnt) : Calls Try.prog 8 #[.pointer (some ⟨gc, 0, none⟩)] w fun e w' => e = .returned (.int .i64 xs.length) ∧ w = w' := by
  obtain ⟨⟨q0, q1⟩, _, _⟩ := two_ h.head
  clear h
  go_enter Try.func8, Try.ntmps8
  go_wp2
  go_ret
  exact ⟨rfl, rfl⟩
theorem clen_nil (w : World) : Calls Try.prog 8 #[.pointer none] w fun e w' => e = .returned (.int .i64 0) ∧ w = w' := by
  go_enter Try.func8, Try.ntmps8
  go_wp2
  go_ret
  exact ⟨rfl, rfl⟩
theorem ccount_any {w : World} {gc gl kc cnt : Nat} {ex : List Value} {xs : List Int} (h : CellsIs w gc gl kc ex xs cnt) : Calls Try.prog 21 #[.pointer (some ⟨gc, 0, none⟩)] w fun e w' => e = .returned (.int .i64 cnt) ∧ w = w' := by
  obtain ⟨⟨q0, q1⟩, _, _⟩ := two_ h.head
  clear h
  go_enter Try.func21, Try.ntmps21
  go_wp2
  go_ret
  exact ⟨rfl, rfl⟩
/-- A deferred 'done'. -/
theorem cdone_deferred {w : World} {gc gl kc cnt : Nat} {ex : List Value} {xs : List Int} (h : CellsIs w gc gl kc ex xs cnt) (u : FrameMode) :
    CallsD Try.prog 61 #[.pointer (some ⟨gc, 0, none⟩)] u w fun e u' w' => u' = u ∧ (e = .returned (.tuple #[]) ∧ w' = w.setCell ⟨gc, 1, none⟩ (.int .i64 ((cnt + 1 : Nat) : Int))) := by
  obtain ⟨⟨q0, q1⟩, f0, f1⟩ := two_ h.head
  have hs := h.small
  clear h
  go_enter_d Try.func61, Try.ntmps61
  go_wp2
  go_end0
  exact ⟨rfl, rfl⟩
theorem load1_any (p v : Addr) (x y : Int) (w : World) (hp : w.cell? p = some (.int .i64 x)) (hv : w.cell? v = some (.int .i64 y)) (hf : w.frozen? v = false) :
    Calls Try.prog 53 #[.pointer (some p), .pointer (some v)] w fun e w' => e = .returned (.tuple #[]) ∧ w' = w.setCell v (.int .i64 x) := by
  go_enter Try.func53, Try.ntmps53
  go_wp2
  go_end0
  exact ⟨rfl, rfl⟩
theorem store1_any (p v : Addr) (x y : Int) (w : World) (hp : w.cell? p = some (.int .i64 x)) (hv : w.cell? v = some (.int .i64 y)) (hf : w.frozen? p = false) :
    Calls Try.prog 48 #[.pointer (some p), .pointer (some v)] w fun e w' => e = .returned (.tuple #[]) ∧ w' = w.setCell p (.int .i64 y) := by
  go_enter Try.func48, Try.ntmps48
  go_wp2
  go_end0
  exact ⟨rfl, rfl⟩
theorem cas1_any (p o s n : Addr) (x y z : Int) (b : Bool) (w : World) (hp : w.cell? p = some (.int .i64 x)) (ho : w.cell? o = some (.int .i64 y)) (hs : w.cell? s = some (.bool b)) (hn : w.cell? n = some (.int .i64 z)) (hf : w.frozen? p = false) (hfs : w.frozen? s = false) (hsp : p ≠ s) (hsn : n ≠ s) :
    Calls Try.prog 66 #[.pointer (some p), .pointer (some o), .pointer (some s), .pointer (some n)] w fun e w' => e = .returned (.tuple #[]) ∧ w' = if x = y then ((w.setCell s (.bool true)).drew).setCell p (.int .i64 z) else (w.setCell s (.bool false)).drew := by
  go_enter Try.func66, Try.ntmps66
  have hc1 : ∀ v, (w.setCell s v).drew.cell? s = some v := fun v => World.cell?_setCell_same w s v hs
  have hc2 : ∀ v, (w.setCell s v).drew.cell? n = some (.int .i64 z) := fun v => (World.cell?_setCell_other w s n v (Ne.symm hsn)).trans hn
  have hc3 : ∀ v, (w.setCell s v).drew.cell? p = some (.int .i64 x) := fun v => (World.cell?_setCell_other w s p v (Ne.symm hsp)).trans hp
  have hc4 : ∀ v, (w.setCell s v).drew.frozen? p = false := fun v => by simp [hf]
  by_cases hxy : x = y
  · subst hxy
    have hE : (x == x) = true := by simp
    simp only [if_pos]
    go_wp2
    go_region
    go_wp2
    go_end0
    exact ⟨rfl, rfl⟩
  · have hE : (x == y) = false := by simpa using hxy
    simp only [if_neg hxy]
    go_wp2
    go_region
    go_wp2
    go_end0
    exact ⟨rfl, rfl⟩
theorem onL_any {w : World} {gc gl kc cnt : Nat} {ex : List Value} {xs : List Int} (h : CellsIs w gc gl kc ex xs cnt) (i : Nat) (hi : i < xs.length) (c : Value) (R : World → Prop) (hR : ∀ w', R w' → ∃ ys, CellsIs w' gc gl kc ex ys cnt)
    (hb : Calls Try.prog 53 #[.pointer (some ⟨gl, i, none⟩), c] w fun e w' => e = .returned (.tuple #[]) ∧ R w') :
    Calls Try.prog 47 #[.pointer (some ⟨gc, 0, none⟩), .int .i64 i, .func (.func 53) #[] #[c]] w fun e w' => e = .returned (.tuple #[]) ∧ ∃ w1, R w1 ∧ w' = w1.setCell ⟨gc, 1, none⟩ (.int .i64 ((cnt + 1 : Nat) : Int)) := by
  have hmf : ∀ (fn : Go.Fn) (first cap : Array Value) (w : World), (Instr.makeFunc fn first cap).run Try.prog w = .ok (.func fn first cap) w := fun _ _ _ _ => rfl
  have HL := Lib.hid (clen_any h)
  have HD := Lib.hid (fun w' (hw : R w') => (cdone_deferred (hR w' hw).choose_spec .returning))
  obtain ⟨⟨q0, q1⟩, _, _⟩ := two_ h.head
  have hg : ¬ (i : Int) ≥ xs.length := by omega
  have hsz := h.size
  have hl := HL.out
  clear h hR
  go_enter_defers Try.func47, Try.ntmps47
  go_wp2_with (first | (go_at_call 8; refine hl.mono ?_; rintro e wl ⟨rfl, rfl⟩) | (go_at_call 53; refine hb.mono ?_; rintro e w1 ⟨rfl, hw⟩))
  refine leaves_cons (f := 61) (args := #[.pointer (some ⟨gc, 0, none⟩)]) (by simp) (by simp [go_sem]) ?_
  refine (HD.out w1 hw).mono ?_
  rintro e u' wz ⟨rfl, rfl, rfl⟩
  have hz : ∃ w2, R w2 ∧ w1.setCell ⟨gc, 1, none⟩ (.int .i64 ((cnt + 1 : Nat) : Int)) = w2.setCell ⟨gc, 1, none⟩ (.int .i64 ((cnt + 1 : Nat) : Int)) := ⟨w1, hw, rfl⟩
  simp [Leaves, settle, results, Try.results47, go_sem]
  exact hz
theorem onS_any {w : World} {gc gl kc cnt : Nat} {ex : List Value} {xs : List Int} (h : CellsIs w gc gl kc ex xs cnt) (i : Nat) (hi : i < xs.length) (c : Value) (R : World → Prop) (hR : ∀ w', R w' → ∃ ys, CellsIs w' gc gl kc ex ys cnt)
    (hb : Calls Try.prog 48 #[.pointer (some ⟨gl, i, none⟩), c] w fun e w' => e = .returned (.tuple #[]) ∧ R w') :
    Calls Try.prog 47 #[.pointer (some ⟨gc, 0, none⟩), .int .i64 i, .func (.func 48) #[] #[c]] w fun e w' => e = .returned (.tuple #[]) ∧ ∃ w1, R w1 ∧ w' = w1.setCell ⟨gc, 1, none⟩ (.int .i64 ((cnt + 1 : Nat) : Int)) := by
  have hmf : ∀ (fn : Go.Fn) (first cap : Array Value) (w : World), (Instr.makeFunc fn first cap).run Try.prog w = .ok (.func fn first cap) w := fun _ _ _ _ => rfl
  have HL := Lib.hid (clen_any h)
  have HD := Lib.hid (fun w' (hw : R w') => (cdone_deferred (hR w' hw).choose_spec .returning))
  obtain ⟨⟨q0, q1⟩, _, _⟩ := two_ h.head
  have hg : ¬ (i : Int) ≥ xs.length := by omega
  have hsz := h.size
  have hl := HL.out
  clear h hR
  go_enter_defers Try.func47, Try.ntmps47
  go_wp2_with (first | (go_at_call 8; refine hl.mono ?_; rintro e wl ⟨rfl, rfl⟩) | (go_at_call 48; refine hb.mono ?_; rintro e w1 ⟨rfl, hw⟩))
  refine leaves_cons (f := 61) (args := #[.pointer (some ⟨gc, 0, none⟩)]) (by simp) (by simp [go_sem]) ?_
  refine (HD.out w1 hw).mono ?_
  rintro e u' wz ⟨rfl, rfl, rfl⟩
  have hz : ∃ w2, R w2 ∧ w1.setCell ⟨gc, 1, none⟩ (.int .i64 ((cnt + 1 : Nat) : Int)) = w2.setCell ⟨gc, 1, none⟩ (.int .i64 ((cnt + 1 : Nat) : Int)) := ⟨w1, hw, rfl⟩
  simp [Leaves, settle, results, Try.results47, go_sem]
  exact hz
theorem onC_any {w : World} {gc gl kc cnt : Nat} {ex : List Value} {xs : List Int} (h : CellsIs w gc gl kc ex xs cnt) (i : Nat) (hi : i < xs.length) (c d e' : Value) (R : World → Prop) (hR : ∀ w', R w' → ∃ ys, CellsIs w' gc gl kc ex ys cnt)
    (hb : Calls Try.prog 66 #[.pointer (some ⟨gl, i, none⟩), c, d, e'] w fun e w' => e = .returned (.tuple #[]) ∧ R w') :
    Calls Try.prog 47 #[.pointer (some ⟨gc, 0, none⟩), .int .i64 i, .func (.func 66) #[] #[c, d, e']] w fun e w' => e = .returned (.tuple #[]) ∧ ∃ w1, R w1 ∧ w' = w1.setCell ⟨gc, 1, none⟩ (.int .i64 ((cnt + 1 : Nat) : Int)) := by
  have hmf : ∀ (fn : Go.Fn) (first cap : Array Value) (w : World), (Instr.makeFunc fn first cap).run Try.prog w = .ok (.func fn first cap) w := fun _ _ _ _ => rfl
  have HL := Lib.hid (clen_any h)
  have HD := Lib.hid (fun w' (hw : R w') => (cdone_deferred (hR w' hw).choose_spec .returning))
  obtain ⟨⟨q0, q1⟩, _, _⟩ := two_ h.head
  have hg : ¬ (i : Int) ≥ xs.length := by omega
  have hsz := h.size
  have hl := HL.out
  clear h hR
  go_enter_defers Try.func47, Try.ntmps47
  go_wp2_with (first | (go_at_call 8; refine hl.mono ?_; rintro e wl ⟨rfl, rfl⟩) | (go_at_call 66; refine hb.mono ?_; rintro e w1 ⟨rfl, hw⟩))
  refine leaves_cons (f := 61) (args := #[.pointer (some ⟨gc, 0, none⟩)]) (by simp) (by simp [go_sem]) ?_
  refine (HD.out w1 hw).mono ?_
  rintro e u' wz ⟨rfl, rfl, rfl⟩
  have hz : ∃ w2, R w2 ∧ w1.setCell ⟨gc, 1, none⟩ (.int .i64 ((cnt + 1 : Nat) : Int)) = w2.setCell ⟨gc, 1, none⟩ (.int .i64 ((cnt + 1 : Nat) : Int)) := ⟨w1, hw, rfl⟩
  simp [Leaves, settle, results, Try.results47, go_sem]
  exact hz
theorem load_any {w : World} {gc gl kc cnt : Nat} {ex : List Value} {xs : List Int} (h : CellsIs w gc gl kc ex xs cnt) (i : Nat) (hi : i < xs.length) (hc : cnt < 1000000) :
    Calls Try.prog 40 #[.pointer (some ⟨gc, 0, none⟩), .int .i64 i] w fun e w' => e = .returned (.int .i64 xs[i]) ∧ CellsIs w' gc gl kc ex xs (cnt + 1) ∧ Mv [gc] w w' := by
  have hmf : ∀ (fn : Go.Fn) (first cap : Array Value) (w : World), (Instr.makeFunc fn first cap).run Try.prog w = .ok (.func fn first cap) w := fun _ _ _ _ => rfl
  have hgc := h.head.lt
  have hgl := h.row.lt
  obtain ⟨wa, HW⟩ : ∃ wa, Hid (wa = w.alloc (.cells #[.int .i64 0] 2)) := ⟨_, rfl⟩
  have h1 : CellsIs wa gc gl kc ex xs cnt := by rw [HW.out]; exact h.below ((Below.refl _ w).alloc (Nat.le_refl _) _)
  have hB : Blk wa w.heap.size 2 #[.int .i64 0] := by rw [HW.out]; exact Blk.new _ _ _
  have HO := Lib.hid (onL_any h1 i hi (.pointer (some ⟨w.heap.size, 0, none⟩)) (fun w' => w' = wa.setCell ⟨w.heap.size, 0, none⟩ (.int .i64 xs[i]))
    (fun w' e => ⟨xs, by rw [e]; exact ⟨h1.head.far (by simp; omega) _, h1.row.far (by simp; omega) _, h1.ne, h1.small, h1.size⟩⟩)
    (load1_any ⟨gl, i, none⟩ ⟨w.heap.size, 0, none⟩ xs[i] 0 wa (h1.cell i hi) (one_ hB).1 (one_ hB).2))
  have HR : Hid (∀ w1, w1 = (wa.setCell ⟨w.heap.size, 0, none⟩ (.int .i64 xs[i])).setCell ⟨gc, 1, none⟩ (.int .i64 ((cnt + 1 : Nat) : Int)) → CellsIs w1 gc gl kc ex xs (cnt + 1) ∧ Mv [gc] w w1 ∧ Blk w1 w.heap.size 2 #[.int .i64 xs[i]]) := by
    intro w1 e
    have h2 : CellsIs (wa.setCell ⟨w.heap.size, 0, none⟩ (.int .i64 xs[i])) gc gl kc ex xs cnt := ⟨h1.head.far (by simp; omega) _, h1.row.far (by simp; omega) _, h1.ne, h1.small, h1.size⟩
    refine ⟨by rw [e]; exact h2.counted hc, ?_, ?_⟩
    · rw [e, HW.out]
      exact (((Mv.refl [gc] w).alloc _).set _ _ (by simp)).set _ _ (by simp)
    · rw [e]
      have := hB.set_ 0 (.int .i64 xs[i])
      simp only [List.setIfInBounds_toArray, List.set_cons_zero] at this
      exact this.far (by simp; omega) _
  clear h h1 hB
  go_enter Try.func40, Try.ntmps40
  go_wp2_with (rw [← HW.out]; go_at_call 47; refine HO.out.mono ?_; rintro e w1 ⟨rfl, w2, rfl, h3⟩; obtain ⟨hC, hM, hB⟩ := HR.out w1 h3; obtain ⟨c1, c2⟩ := one_ hB; clear HR HO h3)
  have hz := World.cell?_setCell_same w1 ⟨w.heap.size, 0, none⟩ (.int .i64 xs[i]) c1
  try simp only [Exit.inBlock, Exit.then]
  refine bodyPost_ret (v := .int .i64 xs[i]) (by simp [results, Try.results40, go_sem, hz]) rfl ?_
  refine ⟨rfl, ⟨hC.head.far (by simp; omega) _, hC.row.far (by simp; omega) _, hC.ne, hC.small, hC.size⟩, hM.set _ _ (by simp)⟩
end Go.Proofs.Ythnhjhlpimgkiaa

/-
  Chapter 11: where an instruction goes: contract of vm.moves at calls and returns. Conditions: the thread lies in memory of the call's own.
-/
import Derived.Test.YtoacnphgkgklcaaDoorMov
import Derived.Test.YtoacnphgkgklcaaDoorSchE
namespace Go.Proofs.YtoacnphgkgklcaaDoor
open Go.RowKit
def Cel3 (g : Nat) (v0 v1 v2 : Value) (w : World) : Prop := w.cell? ⟨g, 0, none⟩ = some v0 ∧ w.cell? ⟨g, 1, none⟩ = some v1 ∧ w.cell? ⟨g, 10, none⟩ = some v2
def CelA (p0 p1 p2 : Addr) (v0 v1 v2 : Value) (w : World) : Prop := w.cell? p0 = some v0 ∧ w.cell? p1 = some v1 ∧ w.cell? p2 = some v2
theorem CelA.far {p0 p1 p2 : Addr} {v0 v1 v2 : Value} {w : World} (h : CelA p0 p1 p2 v0 v1 v2 w) (p : Addr) (v : Value) (h0 : p0 ≠ p) (h1 : p1 ≠ p) (h2 : p2 ≠ p) : CelA p0 p1 p2 v0 v1 v2 (w.setCell p v) :=
  ⟨(World.cell?_setCell_other w p p0 v h0.symm).trans h.1, (World.cell?_setCell_other w p p1 v h1.symm).trans h.2.1, (World.cell?_setCell_other w p p2 v h2.symm).trans h.2.2⟩
theorem thArr_set10s {t : Th} (A A' : Option Addr) (c c' : Nat) (st : List (Int × Int)) (h : t.regs.length = 8) : (thArr t A c).setIfInBounds 10 (.slice A' st.length c') = thArr { t with stack := st } A' c' := by
  unfold thArr
  rw [List.setIfInBounds_toArray]
  congr 1
  rw [List.set_append_right _ _ (by simp; omega)]
  simp [h]
theorem flat_take (st : List (Int × Int)) (k : Nat) : (st.take k).flatMap frVals = (st.flatMap frVals).take (k * 2) := by
  induction st generalizing k with
  | nil => simp
  | cons a st ih =>
    cases k with
    | zero => simp
    | succ k =>
      have e : (k + 1) * 2 = k * 2 + 2 := by omega
      rw [List.take_succ_cons, List.flatMap_cons, List.flatMap_cons, ih, e]
      simp [frVals]
theorem own_take {w : World} {base : Nat} {e : TypeId} {A : Option Addr} {n c k : Nat} {xs : List Value} (h : Own w base e 2 A n c xs) (hk : k ≤ n) (hn : 0 < n) : Own w base e 2 A k c (xs.take (k * 2)) := by
  have hl := h.1
  refine ⟨by rw [List.length_take]; omega, ?_⟩
  rcases h.2 with ⟨_, h0⟩ | ⟨g, cap, cur, hv, hbg, hh, hnc, hcm, hcs, htk⟩
  · omega
  · right
    refine ⟨g, cap, cur, ?_, hbg, hh, by omega, hcm, hcs, ?_⟩
    · injection hv with h1 h2 h3
      rw [h1, h3]
    · rw [← htk, List.take_take, Nat.min_eq_left (by omega)]
theorem twocell (w : World) (v v2 : Value) (t : TypeId) : ∀ j u, [v, v2][j]? = some u → (w.alloc (.cells #[v, v2] t)).cell? ((⟨w.heap.size, 0, none⟩ : Addr).add j) = some u := by
  intro j u hu
  match j, hu with
  | 0, hu => simp at hu; rw [← hu]; simp [go_sem]
  | 1, hu => simp at hu; rw [← hu]; simp [go_sem]
section
variable (w : World) (base g : Nat) (u : Th) (B : Option Addr) (d : Nat) (i : Ins) (hM : ThMem w base g u B d)
include hM
theorem moves_full (h8 : i.op = 8) (hl : u.stack.length = 16) : Calls Tryd.prog 42 #[.pointer (some ⟨g, 0, none⟩), .agg (insArr i)] w (MovesOut w base g (moveT i u)) := by
  have e : moveT i u = none := by unfold moveT; rw [h8, if_neg (by decide), if_neg (by decide), if_pos rfl, if_pos hl]
  rw [e]
  have HM := Lib.hid hM
  have hc := hM.blk.cell 10
  rw [thArr_10 B d hM.regs, hl] at hc
  have hgg : g < w.heap.size := hM.blk.lt
  unfold insArr
  rw [h8]
  clear hM e h8 hl
  go_enter Tryd.func42, Tryd.ntmps42
  go_wp2_with fail
  go_ret
  exact ⟨rfl, (Below.refl _ _).alloc (Nat.le_of_lt HM.out.size) _⟩
set_option maxHeartbeats 2000000 in
theorem moves_call (h8 : i.op = 8) (hl : u.stack.length < 16) : Calls Tryd.prog 42 #[.pointer (some ⟨g, 0, none⟩), .agg (insArr i)] w (MovesOut w base g (moveT i u)) := by
  have e : moveT i u = some { u with fn := i.n, pc := 0, stack := u.stack ++ [(u.fn, u.pc)] } := by unfold moveT; rw [h8, if_neg (by decide), if_neg (by decide), if_pos rfl, if_neg (by omega)]
  rw [e]
  obtain ⟨i0, hi, hz0, hz1, hz2⟩ := info_parts Tryd.infoFr
  have HI := Lib.hid hi
  have HZ0 := Lib.hid hz0
  have HZ1 := Lib.hid hz1
  have HZ2 := Lib.hid hz2
  have hz : base ≤ w.heap.size := Nat.le_of_lt hM.size
  have hgg : g < w.heap.size := hM.blk.lt
  have hc0 := hM.blk.cell 0
  have hc1 := hM.blk.cell 1
  have hc10 := hM.blk.cell 10
  rw [thArr_0] at hc0
  rw [thArr_1] at hc1
  rw [thArr_10 B d hM.regs] at hc10
  have hW : ∃ W : World, Hid (W = w.alloc (.cells #[.int .i64 8, .int .i64 i.a, .int .i64 i.b, .int .i64 i.c, .int .i64 i.n] 32)) := ⟨_, rfl⟩
  obtain ⟨W, HW⟩ := hW
  have hM2 : ThMem W base g u B d := by rw [HW.out]; exact hM.alloc _
  have hBI : Blk W w.heap.size 32 #[.int .i64 8, .int .i64 i.a, .int .i64 i.b, .int .i64 i.c, .int .i64 i.n] := by rw [HW.out]; exact Blk.new w _ _
  have hbW : Below base w W := by rw [HW.out]; exact (Below.refl _ _).alloc hz _
  have k0 : W.cell? ⟨g, 0, none⟩ = some (.int .i64 u.fn) := (hM2.blk.cell 0).trans (thArr_0 B d)
  have k1 : W.cell? ⟨g, 1, none⟩ = some (.int .i64 u.pc) := (hM2.blk.cell 1).trans (thArr_1 B d)
  have k10 : W.cell? ⟨g, 10, none⟩ = some (.slice B u.stack.length d) := (hM2.blk.cell 10).trans (thArr_10 B d hM2.regs)
  have HM := Lib.hid hM2
  have HBI := Lib.hid hBI
  have HBW := Lib.hid hbW
  have F0 : ∀ w', Cel3 g (.int .i64 u.fn) (.int .i64 u.pc) (.slice B u.stack.length d) w' → w'.cell? ⟨g, 0, none⟩ = some (.int .i64 u.fn) := fun _ h => h.1
  have F1 : ∀ w', Cel3 g (.int .i64 u.fn) (.int .i64 u.pc) (.slice B u.stack.length d) w' → w'.cell? ⟨g, 1, none⟩ = some (.int .i64 u.pc) := fun _ h => h.2.1
  have F2 : ∀ w', Cel3 g (.int .i64 u.fn) (.int .i64 u.pc) (.slice B u.stack.length d) w' → w'.cell? ⟨g, 10, none⟩ = some (.slice B u.stack.length d) := fun _ h => h.2.2
  have hne : ((u.stack.length : Int) == 16) = false := by simp; omega
  have HOLT := Lib.hid (fun k h => (hM.own.lt k h).2)
  have hlen : ∃ n : Nat, Hid (n = u.stack.length) := ⟨_, rfl⟩
  unfold insArr
  rw [h8]
  clear hM e h8 hM2 hBI hbW hi hz0 hz1 hz2 hlen
  go_enter Tryd.func42, Tryd.ntmps42
  go_wp2_with fail
  rw [← HW.out]
  refine region_schE (Cel3 g (.int .i64 u.fn) (.int .i64 u.pc) (.slice B u.stack.length d)) [([0, 1, 2, 3, 4, 5, 6, 7, 8, 9, 10, 11, 12, 13], 14), ([], 15)] [16, 17] 18 (by kernel_rfl) (by kernel_rfl) (by kernel_rfl) (fun _ _ d _ _ h => by cases d <;> exact h) ⟨k0, k1, k10⟩ ?_
  (try simp only [Act.put, List.setIfInBounds_toArray, List.set_cons_zero, List.set_cons_succ]); refine schE_seg ?_; simp only [pickOps, List.getElem?_toArray, List.getElem?_cons_zero, List.getElem?_cons_succ]; (repeat (first | go_big_quiet_skip | (go_big_quiet_want; first | (go_big_quiet_op; first | go_big_quiet_on | ((first | with_reducible refine ⟨_, fun _ _ => rfl, ?_⟩); go_big_quiet_on)) | (simp (contextual := true) [go_sem, F0, F1, F2]; with_reducible refine ⟨_, fun _ _ => rfl, ?_⟩; go_big_quiet_on)))); refine wpQuiet_nil ?_
  clear F0 F1 F2
  go_wp2_with fail
  refine ⟨Cel3 g (.int .i64 u.fn) (.int .i64 u.pc) (.slice B u.stack.length d), ?_, fun _ h => h, ?_⟩
  · have hm := (HM.out.drew.alloc (.cells #[.int .i64 u.fn, .int .i64 u.pc] 64)).blk
    exact ⟨(hm.cell 0).trans (thArr_0 B d), (hm.cell 1).trans (thArr_1 B d), (hm.cell 10).trans (thArr_10 B d HM.out.regs)⟩
  (try simp only [Act.put, List.setIfInBounds_toArray, List.set_cons_zero, List.set_cons_succ]); refine schE_seg ?_; simp only [pickOps, List.getElem?_toArray, List.getElem?_cons_zero, List.getElem?_cons_succ]; (repeat (first | go_big_quiet_skip | (go_big_quiet_want; first | (go_big_quiet_op; first | go_big_quiet_on | ((first | with_reducible refine ⟨_, fun _ _ => rfl, ?_⟩); go_big_quiet_on)) | (simp (contextual := true) [go_sem, HBW]; with_reducible refine ⟨_, fun _ _ => rfl, ?_⟩; go_big_quiet_on)))); refine wpQuiet_nil ?_
  have HOA := Lib.hid (show Own (W.alloc (.cells #[.int .i64 u.fn, .int .i64 u.pc] 64)).drew base 64 2 B u.stack.length d (u.stack.flatMap frVals) from HM.out.own.alloc _)
  have HTW := Lib.hid (show ∀ j x, [Value.int .i64 u.fn, Value.int .i64 u.pc][j]? = some x → (W.alloc (.cells #[.int .i64 u.fn, .int .i64 u.pc] 64)).drew.cell? ((⟨W.heap.size, 0, none⟩ : Addr).add j) = some x from twocell W (.int .i64 u.fn) (.int .i64 u.pc) 64)
  have c1 : Hid (u.stack.length + 1 ≤ maxLen) := by unfold maxLen; show _ ≤ _; omega
  have hsz : base ≤ W.heap.size := Nat.le_of_lt HM.out.size
  go_wp2_with (at_builtin; go_must (refine wpList_append_1 _ rfl _ _ 26 rfl base 64 i0 _ 2 16 Tryd.underlying26 HI.out HZ0.out HZ1.out HZ2.out rfl (by decide) _ _ _ _ rfl HOA.out ⟨W.heap.size, 0, none⟩ 1 [.int .i64 u.fn, .int .i64 u.pc] rfl rfl HTW.out (by simp [Value.oneCell']) c1.out (by omega) (by show base ≤ (W.alloc _).heap.size; rw [World.size_alloc]; omega) ?_); intro A' c' w5 hown1 hgrow1 hat1)
  have hBg : Blk w5 g 28 (thArr u B d) := ((HM.out.alloc (.cells #[.int .i64 u.fn, .int .i64 u.pc] 64)).drew.blk).grown hgrow1 (fun e => by
    rcases HM.out.ne with h | h
    · rw [h] at e; cases e
    · exact h e.symm)
  have hBi : Blk w5 w.heap.size 32 #[.int .i64 8, .int .i64 i.a, .int .i64 i.b, .int .i64 i.c, .int .i64 i.n] := ((HBI.out.alloc (.cells #[.int .i64 u.fn, .int .i64 u.pc] 64)).drew).grown hgrow1 (fun e => by
    have := HOLT.out _ e.symm
    omega)
  have hneA : ob A' = none ∨ ob A' ≠ some g := by
    rcases hat1 with h | h
    · rw [h]; exact HM.out.ne
    · right
      intro h2
      rw [h] at h2
      injection h2 with h2
      have : (W.alloc (.cells #[.int .i64 u.fn, .int .i64 u.pc] 64)).drew.heap.size = W.heap.size + 1 := World.size_alloc _ _
      have := HM.out.blk.lt
      omega
  have hbel : Below base W w5 := ((Below.refl base W).alloc hsz (.cells #[.int .i64 u.fn, .int .i64 u.pc] 64)).drew.grown hgrow1 (by show base ≤ (W.alloc _).heap.size; rw [World.size_alloc]; omega) (fun k hk => (HM.out.own.lt k hk).1)
  have hflat : (u.stack ++ [(u.fn, u.pc)]).flatMap frVals = u.stack.flatMap frVals ++ [.int .i64 u.fn, .int .i64 u.pc] := by simp [frVals]
  have hM5 : ThMem (w5.setCell ⟨g, 10, none⟩ (.slice A' (u.stack.length + 1) c')) base g { u with stack := u.stack ++ [(u.fn, u.pc)] } A' c' := by
    have hlen : (u.stack ++ [(u.fn, u.pc)]).length = u.stack.length + 1 := by simp
    refine ⟨?_, ?_, hneA, HM.out.regs, HM.out.ge⟩
    · have := hBg.set_ 10 (.slice A' (u.stack.length + 1) c')
      rw [← hlen, thArr_set10s B A' d c' _ HM.out.regs, hlen] at this
      exact this
    · show Own _ base _ 2 A' (u.stack ++ [(u.fn, u.pc)]).length c' ((u.stack ++ [(u.fn, u.pc)]).flatMap frVals)
      rw [hlen, hflat]
      exact hown1.setCell ⟨g, 10, none⟩ _ hneA
  have q0 := hBg.cell 0
  have q1 := hBg.cell 1
  have q10 := hBg.cell 10
  rw [thArr_0] at q0
  rw [thArr_1] at q1
  rw [thArr_10 B d HM.out.regs] at q10
  have f0 := hBg.frozen 0
  have f1 := hBg.frozen 1
  have f10 := hBg.frozen 10
  have q4 := hBi.cell 4
  simp only [List.getElem?_toArray, List.getElem?_cons_succ, List.getElem?_cons_zero] at q4
  have hgne : w.heap.size ≠ g := by omega
  have HM5 := Lib.hid hM5
  have HB5 := Lib.hid (HBW.out.trans hbel)
  refine ⟨Cel3 g (.int .i64 u.fn) (.int .i64 u.pc) (.slice B u.stack.length d), ⟨q0, q1, q10⟩, fun _ h => h, ?_⟩
  clear hBg hBi hneA hbel hflat hM5 hown1 hgrow1 hat1 HOA HTW HOLT
  (try simp only [Act.put, List.setIfInBounds_toArray, List.set_cons_zero, List.set_cons_succ]); refine schE_last ?_; simp only [pickOps, List.getElem?_toArray, List.getElem?_cons_zero, List.getElem?_cons_succ]; (repeat (first | go_big_quiet_skip | (go_big_quiet_want; first | (go_big_quiet_op; first | go_big_quiet_on | ((first | with_reducible refine ⟨_, fun _ _ => rfl, ?_⟩); go_big_quiet_on)) | (simp (contextual := true) [go_sem, HBW]; with_reducible refine ⟨_, fun _ _ => rfl, ?_⟩; go_big_quiet_on)))); refine wpQuiet_nil ?_
  go_wp2_with fail
  go_ret
  refine ⟨rfl, ⟨A', c', ?_⟩, ?_⟩
  · have h1 := HM5.out.set 0 (.int .i64 i.n) (thArr_set0 _ A' c' i.n) rfl rfl HM5.out.regs
    have h2 := h1.set 1 (.int .i64 0) (thArr_set1 _ A' c' 0) rfl rfl HM5.out.regs
    exact h2
  · exact ((HB5.out.setCell (p := ⟨g, 10, none⟩) HM5.out.ge _).setCell (p := ⟨g, 0, none⟩) HM5.out.ge _).setCell (p := ⟨g, 1, none⟩) HM5.out.ge _
theorem moves_empty (h9 : i.op = 9) (hl : u.stack.length = 0) : Calls Tryd.prog 42 #[.pointer (some ⟨g, 0, none⟩), .agg (insArr i)] w (MovesOut w base g (moveT i u)) := by
  have e : moveT i u = none := by unfold moveT; rw [h9, if_neg (by decide), if_neg (by decide), if_neg (by decide), if_pos rfl, if_pos hl]
  rw [e]
  have HM := Lib.hid hM
  have hc := hM.blk.cell 10
  rw [thArr_10 B d hM.regs, hl] at hc
  have hgg : g < w.heap.size := hM.blk.lt
  unfold insArr
  rw [h9]
  clear hM e h9 hl
  go_enter Tryd.func42, Tryd.ntmps42
  go_wp2_with fail
  go_ret
  exact ⟨rfl, (Below.refl _ _).alloc (Nat.le_of_lt HM.out.size) _⟩
set_option maxHeartbeats 2000000 in
set_option maxRecDepth 100000 in
theorem moves_ret (h9 : i.op = 9) (k : Nat) (hl : u.stack.length = k + 1) (hl2 : k < 16) : Calls Tryd.prog 42 #[.pointer (some ⟨g, 0, none⟩), .agg (insArr i)] w (MovesOut w base g (moveT i u)) := by
  have hk : k < u.stack.length := by omega
  have e : moveT i u = some { u with fn := u.stack[k].1, pc := u.stack[k].2, stack := u.stack.take k } := by
    unfold moveT
    rw [h9, if_neg (by decide), if_neg (by decide), if_neg (by decide), if_pos rfl, if_neg (by omega)]
    have e1 : u.stack.length - 1 = k := by omega
    have e2 : u.stack.getD k (0, 0) = u.stack[k] := by simp [hk]
    rw [e1, e2]
  rw [e]
  have hz : base ≤ w.heap.size := Nat.le_of_lt hM.size
  have hgg : g < w.heap.size := hM.blk.lt
  have hc10 := hM.blk.cell 10
  rw [thArr_10 B d hM.regs, hl] at hc10
  have hW : ∃ W : World, Hid (W = w.alloc (.cells #[.int .i64 9, .int .i64 i.a, .int .i64 i.b, .int .i64 i.c, .int .i64 i.n] 32)) := ⟨_, rfl⟩
  obtain ⟨W, HW⟩ := hW
  have hM2 : ThMem W base g u B d := by rw [HW.out]; exact hM.alloc _
  have hbW : Below base w W := by rw [HW.out]; exact (Below.refl _ _).alloc hz _
  have HM := Lib.hid hM2
  have HBW := Lib.hid hbW
  have HOT := Lib.hid (own_take hM2.own (show k ≤ u.stack.length by omega) (by omega))
  have hcd : k + 1 ≤ d := by
    rcases hM2.own.2 with ⟨_, h0⟩ | ⟨_, cap, _, hv, _, _, hnc, _⟩
    · omega
    · injection hv with _ _ h3
      omega
  have hdm : d ≤ maxLen := by
    rcases hM2.own.2 with ⟨_, h0⟩ | ⟨_, cap, _, hv, _, _, _, hcm, _⟩
    · omega
    · injection hv with _ _ h3
      omega
  unfold maxLen at hdm
  obtain ⟨b, off, rfl, hbl, hx0, hx1⟩ := fr_cells hM2.own.rowN k hk
  have hbg : b ≠ g := by
    intro h
    rcases hM2.ne with h2 | h2
    · cases h2
    · exact h2 (by rw [← h]; rfl)
  have k10 : W.cell? ⟨g, 10, none⟩ = some (.slice (some ⟨b, off, none⟩) (k + 1) d) := by
    have := (hM2.blk.cell 10).trans (thArr_10 _ d hM2.regs)
    rw [hl] at this
    exact this
  have q0 := (hM2.blk.cell 0).trans (thArr_0 _ d)
  have q1 := (hM2.blk.cell 1).trans (thArr_1 _ d)
  have f0 := hM2.blk.frozen 0
  have f1 := hM2.blk.frozen 1
  have f10 := hM2.blk.frozen 10
  have HL := Lib.hid hl
  generalize u.stack[k] = x at *
  obtain ⟨x1, x2⟩ := x
  simp only at hx0 hx1
  have hS : CelA ⟨g, 10, none⟩ ⟨b, off + k * 2, none⟩ ⟨b, off + k * 2 + 1, none⟩ (.slice (some ⟨b, off, none⟩) (k + 1) d) (.int .i64 x1) (.int .i64 x2) W := ⟨k10, hx0, hx1⟩
  have F0 : ∀ w', CelA ⟨g, 10, none⟩ ⟨b, off + k * 2, none⟩ ⟨b, off + k * 2 + 1, none⟩ (.slice (some ⟨b, off, none⟩) (k + 1) d) (.int .i64 x1) (.int .i64 x2) w' → w'.cell? ⟨g, 10, none⟩ = some (.slice (some ⟨b, off, none⟩) (k + 1) d) := fun _ h => h.1
  have F1 : ∀ w', CelA ⟨g, 10, none⟩ ⟨b, off + k * 2, none⟩ ⟨b, off + k * 2 + 1, none⟩ (.slice (some ⟨b, off, none⟩) (k + 1) d) (.int .i64 x1) (.int .i64 x2) w' → w'.cell? ⟨b, off + k * 2, none⟩ = some (.int .i64 x1) := fun _ h => h.2.1
  have F2 : ∀ w', CelA ⟨g, 10, none⟩ ⟨b, off + k * 2, none⟩ ⟨b, off + k * 2 + 1, none⟩ (.slice (some ⟨b, off, none⟩) (k + 1) d) (.int .i64 x1) (.int .i64 x2) w' → w'.cell? ⟨b, off + k * 2 + 1, none⟩ = some (.int .i64 x2) := fun _ h => h.2.2
  have HS := Lib.hid hS
  unfold insArr
  rw [h9]
  clear hM e h9 hM2 hbW hx0 hx1 hS hl hk
  go_enter Tryd.func42, Tryd.ntmps42
  go_wp2_with fail
  rw [← HW.out]
  refine region_schE (CelA ⟨g, 10, none⟩ ⟨b, off + k * 2, none⟩ ⟨b, off + k * 2 + 1, none⟩ (.slice (some ⟨b, off, none⟩) (k + 1) d) (.int .i64 x1) (.int .i64 x2)) [([0, 1, 2, 3, 4, 5, 6, 7, 8, 9, 10, 11, 12, 13, 14, 15, 16, 17, 18, 19, 20, 21, 22, 23, 24, 25, 26], 27), ([28, 29], 30)] [31, 32] 33 (by kernel_rfl) (by kernel_rfl) (by kernel_rfl) (fun _ _ d _ _ h => by cases d <;> exact h) HS.out ?_
  (try simp only [Act.put, List.setIfInBounds_toArray, List.set_cons_zero, List.set_cons_succ]); refine schE_seg ?_; simp only [pickOps, List.getElem?_toArray, List.getElem?_cons_zero, List.getElem?_cons_succ]; (repeat (first | go_big_quiet_skip | (go_big_quiet_want; first | (go_big_quiet_op; first | go_big_quiet_on | ((first | with_reducible refine ⟨_, fun _ _ => rfl, ?_⟩); go_big_quiet_on)) | (simp (contextual := true) [go_sem, F0, F1, F2]; with_reducible refine ⟨_, fun _ _ => rfl, ?_⟩; go_big_quiet_on)))); refine wpQuiet_nil ?_
  clear F0 F1 F2
  go_wp2_with fail
  have HS1 := Lib.hid (HS.out.far ⟨g, 0, none⟩ (.int .i64 x1) (by simp) (fun h => hbg (congrArg Addr.block h)) (fun h => hbg (congrArg Addr.block h)))
  refine ⟨_, HS1.out, fun _ h => h, ?_⟩
  (try simp only [Act.put, List.setIfInBounds_toArray, List.set_cons_zero, List.set_cons_succ]); refine schE_seg ?_; simp only [pickOps, List.getElem?_toArray, List.getElem?_cons_zero, List.getElem?_cons_succ]; (repeat (first | go_big_quiet_skip | (go_big_quiet_want; first | (go_big_quiet_op; first | go_big_quiet_on | ((first | with_reducible refine ⟨_, fun _ _ => rfl, ?_⟩); go_big_quiet_on)) | (simp (contextual := true) [go_sem, HBW]; with_reducible refine ⟨_, fun _ _ => rfl, ?_⟩; go_big_quiet_on)))); refine wpQuiet_nil ?_
  go_wp2_with fail
  have HS2 := Lib.hid (HS1.out.far ⟨g, 1, none⟩ (.int .i64 x2) (by simp) (fun h => hbg (congrArg Addr.block h)) (fun h => hbg (congrArg Addr.block h)))
  refine ⟨_, HS2.out, fun _ h => h, ?_⟩
  (try simp only [Act.put, List.setIfInBounds_toArray, List.set_cons_zero, List.set_cons_succ]); refine schE_last ?_; simp only [pickOps, List.getElem?_toArray, List.getElem?_cons_zero, List.getElem?_cons_succ]; (repeat (first | go_big_quiet_skip | (go_big_quiet_want; first | (go_big_quiet_op; first | go_big_quiet_on | ((first | with_reducible refine ⟨_, fun _ _ => rfl, ?_⟩); go_big_quiet_on)) | (simp (contextual := true) [go_sem, HBW]; with_reducible refine ⟨_, fun _ _ => rfl, ?_⟩; go_big_quiet_on)))); refine wpQuiet_nil ?_
  go_wp2_with fail
  go_ret
  have hlt : (u.stack.take k).length = k := by rw [List.length_take, HL.out]; omega
  refine ⟨rfl, ⟨some ⟨b, off, none⟩, d, ?_⟩, ?_⟩
  · have h1 := HM.out.set 0 (.int .i64 x1) (thArr_set0 _ _ d x1) rfl rfl HM.out.regs
    have h2 := h1.set 1 (.int .i64 x2) (thArr_set1 _ _ d x2) rfl rfl HM.out.regs
    refine ⟨?_, ?_, HM.out.ne, HM.out.regs, HM.out.ge⟩
    · have h3 := h2.blk.set_ 10 (.slice (some ⟨b, off, none⟩) k d)
      have h4 := thArr_set10s (t := { { u with fn := x1 } with pc := x2 }) (some ⟨b, off, none⟩) (some ⟨b, off, none⟩) d d (u.stack.take k) HM.out.regs
      rw [hlt] at h4
      rw [h4] at h3
      exact h3
    · show Own _ base _ 2 _ (u.stack.take k).length d ((u.stack.take k).flatMap frVals)
      rw [hlt, flat_take]
      exact ((HOT.out.setCell ⟨g, 0, none⟩ _ HM.out.ne).setCell ⟨g, 1, none⟩ _ HM.out.ne).setCell ⟨g, 10, none⟩ _ HM.out.ne
  · exact (((HBW.out.setCell (p := ⟨g, 0, none⟩) HM.out.ge _).setCell (p := ⟨g, 1, none⟩) HM.out.ge _).setCell (p := ⟨g, 10, none⟩) HM.out.ge _).drew
end
end Go.Proofs.YtoacnphgkgklcaaDoor

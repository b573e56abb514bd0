/-
  Chapter 11: where an instruction goes: contract of vm.moves. Conditions: the thread lies in memory of the call's own.
-/
import Derived.Test.YtoacnphgkgklcaaDoorRun9
namespace Go.Proofs.YtoacnphgkgklcaaDoor
open Go.RowKit
def regOf (t : Th) (x : Int) : Int := t.regs.getD x.toNat 0
/-- Where an instruction goes; none: the thread is done. -/
def moveT (i : Ins) (u : Th) : Option Th :=
  if i.op = 7 then some (if regOf u i.a = 0 then u else { u with pc := i.n })
  else if i.op = 6 then some { u with pc := i.n }
  else if i.op = 8 then (if u.stack.length = 16 then none else some { u with fn := i.n, pc := 0, stack := u.stack ++ [(u.fn, u.pc)] })
  else if i.op = 9 then (if u.stack.length = 0 then none else some { u with fn := (u.stack.getD (u.stack.length - 1) (0, 0)).1, pc := (u.stack.getD (u.stack.length - 1) (0, 0)).2, stack := u.stack.take (u.stack.length - 1) })
  else if i.op = 14 then none else some u
/-- A thread in a block of the call's own, its stack in another. -/
structure ThMem (w : World) (base g : Nat) (u : Th) (B : Option Addr) (d : Nat) : Prop where
  blk : Blk w g 28 (thArr u B d)
  own : Own w base 64 2 B u.stack.length d (u.stack.flatMap frVals)
  ne : ob B = none ∨ ob B ≠ some g
  regs : u.regs.length = 8
  ge : base ≤ g
def MovesOut (w : World) (base g : Nat) (o : Option Th) (e : Ending) (w' : World) : Prop :=
  match o with
  | none => e = .returned (.bool false) ∧ Below base w w'
  | some u => e = .returned (.bool true) ∧ (∃ B d, ThMem w' base g u B d) ∧ Below base w w'
section
variable {w w' : World} {base g : Nat} {u : Th} {B : Option Addr} {d : Nat}
theorem ThMem.alloc (h : ThMem w base g u B d) (o : Obj) : ThMem (w.alloc o) base g u B d := ⟨h.blk.alloc o, h.own.alloc o, h.ne, h.regs, h.ge⟩
theorem ThMem.drew (h : ThMem w base g u B d) : ThMem w.drew base g u B d := ⟨h.blk.drew, h.own, h.ne, h.regs, h.ge⟩
theorem own_below {e : TypeId} {size n c : Nat} {A : Option Addr} {xs : List Value} (ho : Own w base e size A n c xs) (hb : Below w.heap.size w w') : Own w' base e size A n c xs := by
  refine ⟨ho.1, ?_⟩
  rcases ho.2 with hv | ⟨k, cap, cur, hv, hbg, hh, hr⟩
  · exact .inl hv
  · have hk : k < w.heap.size := by
      rcases Nat.lt_or_ge k w.heap.size with h | h
      · exact h
      · rw [Array.getElem?_eq_none h] at hh; cases hh
    exact .inr ⟨k, cap, cur, hv, hbg, (hb.block k hk).trans hh, hr⟩
theorem ThMem.step (h : ThMem w base g u B d) (hb : Below w.heap.size w w') : ThMem w' base g u B d := ⟨h.blk.below hb h.blk.lt, own_below h.own hb, h.ne, h.regs, h.ge⟩
theorem ThMem.size (h : ThMem w base g u B d) : base < w.heap.size := Nat.lt_of_le_of_lt h.ge h.blk.lt
/-- One cell of the thread's block written. -/
theorem ThMem.set (h : ThMem w base g u B d) (k : Nat) (v : Value) {u' : Th} {d' : Nat} (he : (thArr u B d).setIfInBounds k v = thArr u' B d') (hs : u'.stack = u.stack) (hd : d' = d) (hr : u'.regs.length = 8) : ThMem (w.setCell ⟨g, k, none⟩ v) base g u' B d' := by
  refine ⟨by rw [← he]; exact h.blk.set_ k v, ?_, h.ne, hr, h.ge⟩
  rw [hs, hd]
  exact h.own.setCell ⟨g, k, none⟩ v h.ne
end
theorem thArr_set0 (t : Th) (A : Option Addr) (c : Nat) (x : Int) : (thArr t A c).setIfInBounds 0 (.int .i64 x) = thArr { t with fn := x } A c := by
  unfold thArr; rw [List.setIfInBounds_toArray]; rfl
theorem thArr_set1 (t : Th) (A : Option Addr) (c : Nat) (x : Int) : (thArr t A c).setIfInBounds 1 (.int .i64 x) = thArr { t with pc := x } A c := by
  unfold thArr; rw [List.setIfInBounds_toArray]; rfl
section
variable (w : World) (base g : Nat) (u : Th) (B : Option Addr) (d : Nat) (i : Ins) (hM : ThMem w base g u B d)
include hM
theorem moves_other (h7 : i.op ≠ 7) (h6 : i.op ≠ 6) (h8 : i.op ≠ 8) (h9 : i.op ≠ 9) (h14 : i.op ≠ 14) :
    Calls Tryd.prog 42 #[.pointer (some ⟨g, 0, none⟩), .agg (insArr i)] w (MovesOut w base g (moveT i u)) := by
  have e : moveT i u = some u := by unfold moveT; rw [if_neg h7, if_neg h6, if_neg h8, if_neg h9, if_neg h14]
  rw [e]
  have HM := Lib.hid hM
  have d7 : (i.op == 7) = false := by simpa using h7
  have d6 : (i.op == 6) = false := by simpa using h6
  have d8 : (i.op == 8) = false := by simpa using h8
  have d9 : (i.op == 9) = false := by simpa using h9
  have d14 : (i.op == 14) = false := by simpa using h14
  unfold insArr
  clear hM e h7 h6 h8 h9 h14
  go_enter Tryd.func42, Tryd.ntmps42
  go_wp2_with fail
  go_ret
  exact ⟨rfl, ⟨B, d, HM.out.alloc _⟩, (Below.refl _ _).alloc (Nat.le_of_lt HM.out.size) _⟩
theorem moves_exit (h14 : i.op = 14) : Calls Tryd.prog 42 #[.pointer (some ⟨g, 0, none⟩), .agg (insArr i)] w (MovesOut w base g (moveT i u)) := by
  have e : moveT i u = none := by unfold moveT; rw [h14]; rfl
  rw [e]
  have HM := Lib.hid hM
  unfold insArr
  rw [h14]
  clear hM e h14
  go_enter Tryd.func42, Tryd.ntmps42
  go_wp2_with fail
  go_ret
  exact ⟨rfl, (Below.refl _ _).alloc (Nat.le_of_lt HM.out.size) _⟩
theorem moves_jump (h6 : i.op = 6) : Calls Tryd.prog 42 #[.pointer (some ⟨g, 0, none⟩), .agg (insArr i)] w (MovesOut w base g (moveT i u)) := by
  have e : moveT i u = some { u with pc := i.n } := by unfold moveT; rw [h6]; rfl
  rw [e]
  have HM0 := Lib.hid hM
  have HM := Lib.hid (hM.alloc (.cells #[.int .i64 6, .int .i64 i.a, .int .i64 i.b, .int .i64 i.c, .int .i64 i.n] 32))
  have hf := HM.out.blk.frozen 1
  have hc := HM.out.blk.cell 1
  rw [thArr_1] at hc
  have hz : base ≤ w.heap.size := Nat.le_of_lt hM.size
  have hgg : g < w.heap.size := hM.blk.lt
  unfold insArr
  rw [h6]
  clear hM e h6
  go_enter Tryd.func42, Tryd.ntmps42
  go_wp2_with fail
  go_ret
  exact ⟨rfl, ⟨B, d, (HM0.out.set 1 _ (thArr_set1 u B d i.n) rfl rfl HM.out.regs).alloc _⟩, ((Below.refl _ _).setCell (p := ⟨g, 1, none⟩) HM.out.ge _).alloc (by simp [World.setCell]; omega) _⟩
set_option maxHeartbeats 1000000 in
theorem moves_if (h7 : i.op = 7) (ha0 : 0 ≤ i.a) (ha8 : i.a < 8) : Calls Tryd.prog 42 #[.pointer (some ⟨g, 0, none⟩), .agg (insArr i)] w (MovesOut w base g (moveT i u)) := by
  have e : moveT i u = some (if regOf u i.a = 0 then u else { u with pc := i.n }) := by unfold moveT; rw [h7]; rfl
  rw [e]
  obtain ⟨a, ea⟩ := Int.eq_ofNat_of_zero_le ha0
  have ha : a < 8 := by omega
  have hra : regOf u i.a = u.regs.getD a 0 := by unfold regOf; rw [ea]; rfl
  rw [hra]
  have hz : base ≤ w.heap.size := Nat.le_of_lt hM.size
  have hW : ∃ W : World, Hid (W = w.alloc (.cells #[.int .i64 7, .int .i64 a, .int .i64 i.b, .int .i64 i.c, .int .i64 i.n] 32)) := ⟨_, rfl⟩
  obtain ⟨W, HW⟩ := hW
  have hM2 : ThMem W base g u B d := by rw [HW.out]; exact hM.alloc _
  have hBI : Blk W w.heap.size 32 #[.int .i64 7, .int .i64 a, .int .i64 i.b, .int .i64 i.c, .int .i64 i.n] := by rw [HW.out]; exact Blk.new w _ _
  have hbW : Below base w W := by rw [HW.out]; exact (Below.refl _ _).alloc hz _
  have HM := Lib.hid hM2
  have HBI := Lib.hid hBI
  have HBW := Lib.hid hbW
  have F0 : ∀ w', Below W.heap.size W w' → w'.cell? ⟨w.heap.size, 1, none⟩ = some (.int .i64 a) := fun w' h => (h.cell (p := ⟨w.heap.size, 1, none⟩) hBI.lt).trans (hBI.cell 1)
  have F1 : ∀ w', Below W.heap.size W w' → w'.cell? ⟨g, 2 + a, none⟩ = some (.int .i64 (u.regs.getD a 0)) := fun w' h => (h.cell (p := ⟨g, 2 + a, none⟩) hM2.blk.lt).trans ((hM2.blk.cell (2 + a)).trans (thArr_reg B d hM2.regs a ha))
  unfold insArr
  rw [h7, ea]
  generalize u.regs.getD a 0 = r at *
  clear hM e h7 hra ea hM2 hBI hbW ha0 ha8
  by_cases hr : r = 0
  · subst hr
    rw [if_pos rfl]
    go_enter Tryd.func42, Tryd.ntmps42
    go_wp2_with fail
    rw [← HW.out]
    refine region_below W W.heap.size (by kernel_rfl) (by kernel_rfl) (Below.refl _ _) ?_
    repeat (first | go_big_quiet_skip | (go_big_quiet_want; first | (go_big_quiet_op; first | go_big_quiet_on | ((first | with_reducible refine ⟨_, fun _ _ => rfl, ?_⟩); go_big_quiet_on)) | (simp (contextual := true) [go_sem, F0, F1]; with_reducible refine ⟨_, fun _ _ => rfl, ?_⟩; go_big_quiet_on)))
    refine wpQuiet_nil ?_
    intro w1 hw1
    clear F0 F1
    have HW1 := Lib.hid hw1
    clear hw1
    go_wp2_with fail
    go_ret
    exact ⟨rfl, ⟨B, d, HM.out.step HW1.out⟩, HBW.out.trans (HW1.out.mono (Nat.le_of_lt HM.out.size))⟩
  · rw [if_neg hr]
    have hr' : (r == 0) = false := by simpa using hr
    clear hr
    go_enter Tryd.func42, Tryd.ntmps42
    go_wp2_with fail
    rw [← HW.out]
    refine region_below W W.heap.size (by kernel_rfl) (by kernel_rfl) (Below.refl _ _) ?_
    repeat (first | go_big_quiet_skip | (go_big_quiet_want; first | (go_big_quiet_op; first | go_big_quiet_on | ((first | with_reducible refine ⟨_, fun _ _ => rfl, ?_⟩); go_big_quiet_on)) | (simp (contextual := true) [go_sem, F0, F1]; with_reducible refine ⟨_, fun _ _ => rfl, ?_⟩; go_big_quiet_on)))
    refine wpQuiet_nil ?_
    intro w1 hw1
    clear F0 F1
    have HM1 := Lib.hid (HM.out.step hw1)
    have hc4 := (HBI.out.below hw1 HBI.out.lt).cell 4
    simp only [List.getElem?_toArray, List.getElem?_cons_succ, List.getElem?_cons_zero] at hc4
    have hc1 := HM1.out.blk.cell 1
    rw [thArr_1] at hc1
    have hf1 := HM1.out.blk.frozen 1
    have HW1 := Lib.hid hw1
    clear hw1
    go_wp2_with fail
    go_ret
    exact ⟨rfl, ⟨B, d, HM1.out.set 1 _ (thArr_set1 u B d i.n) rfl rfl HM1.out.regs⟩, (HBW.out.trans (HW1.out.mono (Nat.le_of_lt HM.out.size))).setCell (p := ⟨g, 1, none⟩) HM1.out.ge _⟩
end
end Go.Proofs.YtoacnphgkgklcaaDoor

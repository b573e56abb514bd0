/-
  Chapter 11, plain: a thread that fits does so behind a step. No program in sight.
-/
import Derived.Test.YtkfpnppppmccdaaDoorMVm
import Derived.Test.YtkfpnppppmccdaaDoorSchE
namespace Go.Proofs.YtkfpnppppmccdaaDoor
open Go.RowKit
theorem opRegs_le (op : Int) : opRegs op ≤ 3 := by
  by_cases h : 0 ≤ op ∧ op < 24
  · obtain ⟨k, rfl⟩ := Int.eq_ofNat_of_zero_le h.1
    have hk : k < 24 := by omega
    have : ∀ k : Nat, k < 24 → opRegs (k : Int) ≤ 3 := by decide +kernel
    exact this k hk
  · have : opRow op = noRow := opRow_out op (by omega)
    unfold opRegs
    rw [this]
    decide
/-- What an instruction of a program that may run is like. -/
structure InsRun (i : Ins) (places funcs : Nat) : Prop where
  op0 : 0 ≤ i.op
  op24 : i.op < 24
  a0 : 0 ≤ i.a
  a8 : i.a < 8
  b0 : 0 ≤ i.b
  b8 : i.b < 8
  c0 : 0 ≤ i.c
  c8 : i.c < 8
  toPlace : opTarget i.op = 1 → 0 ≤ i.n ∧ i.n < places
  toFunc : opTarget i.op = 2 → 0 ≤ i.n ∧ i.n < funcs
theorem reg_in {r x : Int} {k : Nat} (h1 : regB r k x = false) (h2 : spB r k x = false) : 0 ≤ x ∧ x < 8 := by
  unfold regB at h1
  unfold spB at h2
  by_cases h : (k : Int) < r
  · rw [decide_eq_true h, Bool.true_and, Bool.or_eq_false_iff] at h1
    simp at h1
    omega
  · rw [decide_eq_true (show r ≤ (k : Int) by omega), Bool.true_and] at h2
    have : x = 0 := by simpa using h2
    omega
theorem run_of_check {i : Ins} {places funcs : Nat} (h : checkF i.op i.a i.b i.c i.n places funcs = 0) : InsRun i places funcs := by
  unfold checkF at h
  split at h
  · exact absurd h (by decide)
  rename_i ho
  split at h
  · exact absurd h (by decide)
  rename_i hr
  split at h
  · exact absurd h (by decide)
  rename_i hs
  have ho' : isOpB i.op = true := by simpa using ho
  unfold isOpB at ho'
  rw [decide_eq_true_eq] at ho'
  unfold regsBad at hr
  unfold spareBad at hs
  rw [Bool.not_eq_true, Bool.or_eq_false_iff, Bool.or_eq_false_iff] at hr hs
  have ha := reg_in hr.1.1 hs.1.1
  have hb := reg_in hr.1.2 hs.1.2
  have hc := reg_in hr.2 hs.2
  refine ⟨ho'.1, ho'.2, ha.1, ha.2, hb.1, hb.2, hc.1, hc.2, fun ht => ?_, fun ht => ?_⟩
  · rw [if_neg (by rw [ht]; decide), if_neg (by rw [ht]; decide : ¬ opTarget i.op = 2)] at h
    by_cases hn : i.n < 0 ∨ (places : Int) ≤ i.n
    · rw [if_pos hn] at h; exact absurd h (by decide)
    · omega
  · rw [if_neg (by rw [ht]; decide), if_pos ht] at h
    by_cases hn : i.n < 0 ∨ (funcs : Int) ≤ i.n
    · rw [if_pos hn] at h; exact absurd h (by decide)
    · omega
theorem find_none_at {p : Nat → Bool} {n : Nat} (h : (List.range n).find? p = none) (i : Nat) (hi : i < n) : p i = false := by
  rw [List.find?_eq_none] at h
  have := h i (List.mem_range.2 hi)
  simpa using this
theorem run_fn {fs : List Fn} (h : runB fs = true) : 0 < fs.length ∧ fs.length ≤ 16 ∧ ∀ k (hk : k < fs.length), (fnF fs[k] fs.length).2 = 0 := by
  unfold runB at h
  rw [decide_eq_true_eq] at h
  unfold checkP at h
  split at h
  · exact absurd h (by decide)
  rename_i h0
  split at h
  · exact absurd h (by decide)
  rename_i h16
  refine ⟨by omega, by omega, fun k hk => ?_⟩
  split at h
  · rename_i i hi
    have : (fnAt fs i).2 ≠ 0 := by
      have := List.find?_some hi
      simpa using this
    exact absurd h this
  · rename_i hn
    have := find_none_at hn k hk
    simp only [bne_eq_false_iff_eq] at this
    unfold fnAt at this
    simpa [hk] using this
theorem fn_ok {f : Fn} {funcs : Nat} (h : (fnF f funcs).2 = 0) : 0 < f.code.length ∧ f.code.length ≤ 64 ∧ (∀ k (hk : k < f.code.length), InsRun f.code[k] f.code.length funcs) ∧ ∀ k (hk : k < f.code.length), opEnds f.code[k].op = false → k + 1 < f.code.length := by
  unfold fnF at h
  split at h
  · exact absurd h (by decide)
  rename_i h0
  split at h
  · exact absurd h (by decide)
  rename_i h64
  split at h
  · exact absurd h (by decide)
  split at h
  · rename_i k hk
    have : placeAt f funcs k ≠ 0 := by
      have := List.find?_some hk
      simpa using this
    exact absurd h this
  · rename_i hn
    refine ⟨by omega, by omega, fun k hk => ?_, fun k hk he => ?_⟩
    · have hp := find_none_at hn k hk
      simp only [bne_eq_false_iff_eq] at hp
      unfold placeAt placeF at hp
      rw [code_getD hk] at hp
      split at hp
      · rename_i hc
        exact absurd hp hc
      · rename_i hc
        exact run_of_check (by simpa using hc)
    · refine Classical.byContradiction fun hlt => ?_
      have ek : k = f.code.length - 1 := by omega
      split at h
      · rename_i hl
        rw [← ek, code_getD hk, he] at hl
        cases hl
      · exact absurd (show (11 : Int) = 0 from h) (by decide)
theorem run_ins {fs : List Fn} (h : runB fs = true) {k m : Nat} (hk : k < fs.length) (hm : m < fs[k].code.length) : InsRun fs[k].code[m] fs[k].code.length fs.length := (fn_ok ((run_fn h).2.2 k hk)).2.2.1 m hm
end Go.Proofs.YtkfpnppppmccdaaDoor
namespace Go.Proofs.YtkfpnppppmccdaaDoor
open Go.RowKit
def regOf (t : Th) (x : Int) : Int := t.regs.getD x.toNat 0
/-- Where an instruction goes; none: the thread is done. -/
def moveT (i : Ins) (u : Th) : Option Th :=
  if i.op = 7 then some (if regOf u i.a = 0 then u else { u with pc := i.n })
  else if i.op = 6 then some { u with pc := i.n }
  else if i.op = 8 then (if u.stack.length = 16 then none else some { u with fn := i.n, pc := 0, stack := u.stack ++ [(u.fn, u.pc)] })
  else if i.op = 9 then (if u.stack.length = 0 then none else some { u with fn := (u.stack.getD (u.stack.length - 1) (0, 0)).1, pc := (u.stack.getD (u.stack.length - 1) (0, 0)).2, stack := u.stack.take (u.stack.length - 1) })
  else if i.op = 14 then none else some u
/-- A thread in a block of the call's own, its stack in another. -/
structure ThMem (w : World) (base g : Nat) (u : Th) (B : Option Addr) (d : Nat) : Prop where
  blk : Blk w g 56 (thArr u B d)
  own : Own w base 105 2 B u.stack.length d (u.stack.flatMap frVals)
  ne : ob B = none ∨ ob B ≠ some g
  regs : u.regs.length = 8
  ge : base ≤ g
def MovesOut (w : World) (base g : Nat) (o : Option Th) (e : Ending) (w' : World) : Prop :=
  match o with
  | none => e = .returned (.bool false) ∧ Below base w w'
  | some u => e = .returned (.bool true) ∧ (∃ B d, ThMem w' base g u B d) ∧ Below base w w'
section
variable {w w' : World} {base g : Nat} {u : Th} {B : Option Addr} {d : Nat}
theorem ThMem.alloc (h : ThMem w base g u B d) (o : Obj) : ThMem (w.alloc o) base g u B d := ⟨h.blk.alloc o, h.own.alloc o, h.ne, h.regs, h.ge⟩
theorem ThMem.drew (h : ThMem w base g u B d) : ThMem w.drew base g u B d := ⟨h.blk.drew, h.own, h.ne, h.regs, h.ge⟩
theorem own_below {e : TypeId} {size n c : Nat} {A : Option Addr} {xs : List Value} (ho : Own w base e size A n c xs) (hb : Below w.heap.size w w') : Own w' base e size A n c xs := by
  refine ⟨ho.1, ?_⟩
  rcases ho.2 with hv | ⟨k, cap, cur, hv, hbg, hh, hr⟩
  · exact .inl hv
  · have hk : k < w.heap.size := by
      rcases Nat.lt_or_ge k w.heap.size with h | h
      · exact h
      · rw [Array.getElem?_eq_none h] at hh; cases hh
    exact .inr ⟨k, cap, cur, hv, hbg, (hb.block k hk).trans hh, hr⟩
theorem ThMem.step (h : ThMem w base g u B d) (hb : Below w.heap.size w w') : ThMem w' base g u B d := ⟨h.blk.below hb h.blk.lt, own_below h.own hb, h.ne, h.regs, h.ge⟩
theorem ThMem.size (h : ThMem w base g u B d) : base < w.heap.size := Nat.lt_of_le_of_lt h.ge h.blk.lt
/-- One cell of the thread's block written. -/
theorem ThMem.set (h : ThMem w base g u B d) (k : Nat) (v : Value) {u' : Th} {d' : Nat} (he : (thArr u B d).setIfInBounds k v = thArr u' B d') (hs : u'.stack = u.stack) (hd : d' = d) (hr : u'.regs.length = 8) : ThMem (w.setCell ⟨g, k, none⟩ v) base g u' B d' := by
  refine ⟨by rw [← he]; exact h.blk.set_ k v, ?_, h.ne, hr, h.ge⟩
  rw [hs, hd]
  exact h.own.setCell ⟨g, k, none⟩ v h.ne
end
theorem thArr_set0 (t : Th) (A : Option Addr) (c : Nat) (x : Int) : (thArr t A c).setIfInBounds 0 (.int .i64 x) = thArr { t with fn := x } A c := by
  unfold thArr; rw [List.setIfInBounds_toArray]; rfl
theorem thArr_set1 (t : Th) (A : Option Addr) (c : Nat) (x : Int) : (thArr t A c).setIfInBounds 1 (.int .i64 x) = thArr { t with pc := x } A c := by
  unfold thArr; rw [List.setIfInBounds_toArray]; rfl
section
variable (w : World) (base g : Nat) (u : Th) (B : Option Addr) (d : Nat) (i : Ins) (hM : ThMem w base g u B d)
include hM
theorem moves_other (h7 : i.op ≠ 7) (h6 : i.op ≠ 6) (h8 : i.op ≠ 8) (h9 : i.op ≠ 9) (h14 : i.op ≠ 14) :
    Calls Tryd.prog 79 #[.pointer (some ⟨g, 0, none⟩), .agg (insArr i)] w (MovesOut w base g (moveT i u)) := by
  have e : moveT i u = some u := by unfold moveT; rw [if_neg h7, if_neg h6, if_neg h8, if_neg h9, if_neg h14]
  rw [e]
  have HM := Lib.hid hM
  have d7 : (i.op == 7) = false := by simpa using h7
  have d6 : (i.op == 6) = false := by simpa using h6
  have d8 : (i.op == 8) = false := by simpa using h8
  have d9 : (i.op == 9) = false := by simpa using h9
  have d14 : (i.op == 14) = false := by simpa using h14
  unfold insArr
  clear hM e h7 h6 h8 h9 h14
  go_enter Tryd.func79, Tryd.ntmps79
  go_wp2_with fail
  go_ret
  exact ⟨rfl, ⟨B, d, HM.out.alloc _⟩, (Below.refl _ _).alloc (Nat.le_of_lt HM.out.size) _⟩
theorem moves_exit (h14 : i.op = 14) : Calls Tryd.prog 79 #[.pointer (some ⟨g, 0, none⟩), .agg (insArr i)] w (MovesOut w base g (moveT i u)) := by
  have e : moveT i u = none := by unfold moveT; rw [h14]; rfl
  rw [e]
  have HM := Lib.hid hM
  unfold insArr
  rw [h14]
  clear hM e h14
  go_enter Tryd.func79, Tryd.ntmps79
  go_wp2_with fail
  go_ret
  exact ⟨rfl, (Below.refl _ _).alloc (Nat.le_of_lt HM.out.size) _⟩
theorem moves_jump (h6 : i.op = 6) : Calls Tryd.prog 79 #[.pointer (some ⟨g, 0, none⟩), .agg (insArr i)] w (MovesOut w base g (moveT i u)) := by
  have e : moveT i u = some { u with pc := i.n } := by unfold moveT; rw [h6]; rfl
  rw [e]
  have HM0 := Lib.hid hM
  have HM := Lib.hid (hM.alloc (.cells #[.int .i64 6, .int .i64 i.a, .int .i64 i.b, .int .i64 i.c, .int .i64 i.n] 64))
  have hf := HM.out.blk.frozen 1
  have hc := HM.out.blk.cell 1
  rw [thArr_1] at hc
  have hz : base ≤ w.heap.size := Nat.le_of_lt hM.size
  have hgg : g < w.heap.size := hM.blk.lt
  unfold insArr
  rw [h6]
  clear hM e h6
  go_enter Tryd.func79, Tryd.ntmps79
  go_wp2_with fail
  go_ret
  exact ⟨rfl, ⟨B, d, (HM0.out.set 1 _ (thArr_set1 u B d i.n) rfl rfl HM.out.regs).alloc _⟩, ((Below.refl _ _).setCell (p := ⟨g, 1, none⟩) HM.out.ge _).alloc (by simp [World.setCell]; omega) _⟩
set_option maxHeartbeats 1000000 in
theorem moves_if (h7 : i.op = 7) (ha0 : 0 ≤ i.a) (ha8 : i.a < 8) : Calls Tryd.prog 79 #[.pointer (some ⟨g, 0, none⟩), .agg (insArr i)] w (MovesOut w base g (moveT i u)) := by
  have e : moveT i u = some (if regOf u i.a = 0 then u else { u with pc := i.n }) := by unfold moveT; rw [h7]; rfl
  rw [e]
  obtain ⟨a, ea⟩ := Int.eq_ofNat_of_zero_le ha0
  have ha : a < 8 := by omega
  have hra : regOf u i.a = u.regs.getD a 0 := by unfold regOf; rw [ea]; rfl
  rw [hra]
  have hz : base ≤ w.heap.size := Nat.le_of_lt hM.size
  have hW : ∃ W : World, Hid (W = w.alloc (.cells #[.int .i64 7, .int .i64 a, .int .i64 i.b, .int .i64 i.c, .int .i64 i.n] 64)) := ⟨_, rfl⟩
  obtain ⟨W, HW⟩ := hW
  have hM2 : ThMem W base g u B d := by rw [HW.out]; exact hM.alloc _
  have hBI : Blk W w.heap.size 64 #[.int .i64 7, .int .i64 a, .int .i64 i.b, .int .i64 i.c, .int .i64 i.n] := by rw [HW.out]; exact Blk.new w _ _
  have hbW : Below base w W := by rw [HW.out]; exact (Below.refl _ _).alloc hz _
  have HM := Lib.hid hM2
  have HBI := Lib.hid hBI
  have HBW := Lib.hid hbW
  have F0 : ∀ w', Below W.heap.size W w' → w'.cell? ⟨w.heap.size, 1, none⟩ = some (.int .i64 a) := fun w' h => (h.cell (p := ⟨w.heap.size, 1, none⟩) hBI.lt).trans (hBI.cell 1)
  have F1 : ∀ w', Below W.heap.size W w' → w'.cell? ⟨g, 2 + a, none⟩ = some (.int .i64 (u.regs.getD a 0)) := fun w' h => (h.cell (p := ⟨g, 2 + a, none⟩) hM2.blk.lt).trans ((hM2.blk.cell (2 + a)).trans (thArr_reg B d hM2.regs a ha))
  unfold insArr
  rw [h7, ea]
  generalize u.regs.getD a 0 = r at *
  clear hM e h7 hra ea hM2 hBI hbW ha0 ha8
  by_cases hr : r = 0
  · subst hr
    rw [if_pos rfl]
    go_enter Tryd.func79, Tryd.ntmps79
    go_wp2_with fail
    rw [← HW.out]
    refine region_below W W.heap.size (by kernel_rfl) (by kernel_rfl) (Below.refl _ _) ?_
    repeat (first | go_big_quiet_skip | (go_big_quiet_want; first | (go_big_quiet_op; first | go_big_quiet_on | ((first | with_reducible refine ⟨_, fun _ _ => rfl, ?_⟩); go_big_quiet_on)) | (simp (contextual := true) [go_sem, F0, F1]; with_reducible refine ⟨_, fun _ _ => rfl, ?_⟩; go_big_quiet_on)))
    refine wpQuiet_nil ?_
    intro w1 hw1
    clear F0 F1
    have HW1 := Lib.hid hw1
    clear hw1
    go_wp2_with fail
    go_ret
    exact ⟨rfl, ⟨B, d, HM.out.step HW1.out⟩, HBW.out.trans (HW1.out.mono (Nat.le_of_lt HM.out.size))⟩
  · rw [if_neg hr]
    have hr' : (r == 0) = false := by simpa using hr
    clear hr
    go_enter Tryd.func79, Tryd.ntmps79
    go_wp2_with fail
    rw [← HW.out]
    refine region_below W W.heap.size (by kernel_rfl) (by kernel_rfl) (Below.refl _ _) ?_
    repeat (first | go_big_quiet_skip | (go_big_quiet_want; first | (go_big_quiet_op; first | go_big_quiet_on | ((first | with_reducible refine ⟨_, fun _ _ => rfl, ?_⟩); go_big_quiet_on)) | (simp (contextual := true) [go_sem, F0, F1]; with_reducible refine ⟨_, fun _ _ => rfl, ?_⟩; go_big_quiet_on)))
    refine wpQuiet_nil ?_
    intro w1 hw1
    clear F0 F1
    have HM1 := Lib.hid (HM.out.step hw1)
    have hc4 := (HBI.out.below hw1 HBI.out.lt).cell 4
    simp only [List.getElem?_toArray, List.getElem?_cons_succ, List.getElem?_cons_zero] at hc4
    have hc1 := HM1.out.blk.cell 1
    rw [thArr_1] at hc1
    have hf1 := HM1.out.blk.frozen 1
    have HW1 := Lib.hid hw1
    clear hw1
    go_wp2_with fail
    go_ret
    exact ⟨rfl, ⟨B, d, HM1.out.set 1 _ (thArr_set1 u B d i.n) rfl rfl HM1.out.regs⟩, (HBW.out.trans (HW1.out.mono (Nat.le_of_lt HM.out.size))).setCell (p := ⟨g, 1, none⟩) HM1.out.ge _⟩
end
end Go.Proofs.YtkfpnppppmccdaaDoor
namespace Go.Proofs.YtkfpnppppmccdaaDoor
open Go.RowKit
def Cel3 (g : Nat) (v0 v1 v2 : Value) (w : World) : Prop := w.cell? ⟨g, 0, none⟩ = some v0 ∧ w.cell? ⟨g, 1, none⟩ = some v1 ∧ w.cell? ⟨g, 10, none⟩ = some v2
def CelA (p0 p1 p2 : Addr) (v0 v1 v2 : Value) (w : World) : Prop := w.cell? p0 = some v0 ∧ w.cell? p1 = some v1 ∧ w.cell? p2 = some v2
theorem CelA.far {p0 p1 p2 : Addr} {v0 v1 v2 : Value} {w : World} (h : CelA p0 p1 p2 v0 v1 v2 w) (p : Addr) (v : Value) (h0 : p0 ≠ p) (h1 : p1 ≠ p) (h2 : p2 ≠ p) : CelA p0 p1 p2 v0 v1 v2 (w.setCell p v) :=
  ⟨(World.cell?_setCell_other w p p0 v h0.symm).trans h.1, (World.cell?_setCell_other w p p1 v h1.symm).trans h.2.1, (World.cell?_setCell_other w p p2 v h2.symm).trans h.2.2⟩
theorem thArr_set10s {t : Th} (A A' : Option Addr) (c c' : Nat) (st : List (Int × Int)) (h : t.regs.length = 8) : (thArr t A c).setIfInBounds 10 (.slice A' st.length c') = thArr { t with stack := st } A' c' := by
  unfold thArr
  rw [List.setIfInBounds_toArray]
  congr 1
  rw [List.set_append_right _ _ (by simp; omega)]
  simp [h]
theorem flat_take (st : List (Int × Int)) (k : Nat) : (st.take k).flatMap frVals = (st.flatMap frVals).take (k * 2) := by
  induction st generalizing k with
  | nil => simp
  | cons a st ih =>
    cases k with
    | zero => simp
    | succ k =>
      have e : (k + 1) * 2 = k * 2 + 2 := by omega
      rw [List.take_succ_cons, List.flatMap_cons, List.flatMap_cons, ih, e]
      simp [frVals]
theorem own_take {w : World} {base : Nat} {e : TypeId} {A : Option Addr} {n c k : Nat} {xs : List Value} (h : Own w base e 2 A n c xs) (hk : k ≤ n) (hn : 0 < n) : Own w base e 2 A k c (xs.take (k * 2)) := by
  have hl := h.1
  refine ⟨by rw [List.length_take]; omega, ?_⟩
  rcases h.2 with ⟨_, h0⟩ | ⟨g, cap, cur, hv, hbg, hh, hnc, hcm, hcs, htk⟩
  · omega
  · right
    refine ⟨g, cap, cur, ?_, hbg, hh, by omega, hcm, hcs, ?_⟩
    · injection hv with h1 h2 h3
      rw [h1, h3]
    · rw [← htk, List.take_take, Nat.min_eq_left (by omega)]
theorem twocell (w : World) (v v2 : Value) (t : TypeId) : ∀ j u, [v, v2][j]? = some u → (w.alloc (.cells #[v, v2] t)).cell? ((⟨w.heap.size, 0, none⟩ : Addr).add j) = some u := by
  intro j u hu
  match j, hu with
  | 0, hu => simp at hu; rw [← hu]; simp [go_sem]
  | 1, hu => simp at hu; rw [← hu]; simp [go_sem]
section
variable (w : World) (base g : Nat) (u : Th) (B : Option Addr) (d : Nat) (i : Ins) (hM : ThMem w base g u B d)
include hM
theorem moves_full (h8 : i.op = 8) (hl : u.stack.length = 16) : Calls Tryd.prog 79 #[.pointer (some ⟨g, 0, none⟩), .agg (insArr i)] w (MovesOut w base g (moveT i u)) := by
  have e : moveT i u = none := by unfold moveT; rw [h8, if_neg (by decide), if_neg (by decide), if_pos rfl, if_pos hl]
  rw [e]
  have HM := Lib.hid hM
  have hc := hM.blk.cell 10
  rw [thArr_10 B d hM.regs, hl] at hc
  have hgg : g < w.heap.size := hM.blk.lt
  unfold insArr
  rw [h8]
  clear hM e h8 hl
  go_enter Tryd.func79, Tryd.ntmps79
  go_wp2_with fail
  go_ret
  exact ⟨rfl, (Below.refl _ _).alloc (Nat.le_of_lt HM.out.size) _⟩
set_option maxHeartbeats 2000000 in
theorem moves_call (h8 : i.op = 8) (hl : u.stack.length < 16) : Calls Tryd.prog 79 #[.pointer (some ⟨g, 0, none⟩), .agg (insArr i)] w (MovesOut w base g (moveT i u)) := by
  have e : moveT i u = some { u with fn := i.n, pc := 0, stack := u.stack ++ [(u.fn, u.pc)] } := by unfold moveT; rw [h8, if_neg (by decide), if_neg (by decide), if_pos rfl, if_neg (by omega)]
  rw [e]
  obtain ⟨i0, hi, hz0, hz1, hz2⟩ := info_parts Tryd.infoFr
  have HI := Lib.hid hi
  have HZ0 := Lib.hid hz0
  have HZ1 := Lib.hid hz1
  have HZ2 := Lib.hid hz2
  have hz : base ≤ w.heap.size := Nat.le_of_lt hM.size
  have hgg : g < w.heap.size := hM.blk.lt
  have hc0 := hM.blk.cell 0
  have hc1 := hM.blk.cell 1
  have hc10 := hM.blk.cell 10
  rw [thArr_0] at hc0
  rw [thArr_1] at hc1
  rw [thArr_10 B d hM.regs] at hc10
  have hW : ∃ W : World, Hid (W = w.alloc (.cells #[.int .i64 8, .int .i64 i.a, .int .i64 i.b, .int .i64 i.c, .int .i64 i.n] 64)) := ⟨_, rfl⟩
  obtain ⟨W, HW⟩ := hW
  have hM2 : ThMem W base g u B d := by rw [HW.out]; exact hM.alloc _
  have hBI : Blk W w.heap.size 64 #[.int .i64 8, .int .i64 i.a, .int .i64 i.b, .int .i64 i.c, .int .i64 i.n] := by rw [HW.out]; exact Blk.new w _ _
  have hbW : Below base w W := by rw [HW.out]; exact (Below.refl _ _).alloc hz _
  have k0 : W.cell? ⟨g, 0, none⟩ = some (.int .i64 u.fn) := (hM2.blk.cell 0).trans (thArr_0 B d)
  have k1 : W.cell? ⟨g, 1, none⟩ = some (.int .i64 u.pc) := (hM2.blk.cell 1).trans (thArr_1 B d)
  have k10 : W.cell? ⟨g, 10, none⟩ = some (.slice B u.stack.length d) := (hM2.blk.cell 10).trans (thArr_10 B d hM2.regs)
  have HM := Lib.hid hM2
  have HBI := Lib.hid hBI
  have HBW := Lib.hid hbW
  have F0 : ∀ w', Cel3 g (.int .i64 u.fn) (.int .i64 u.pc) (.slice B u.stack.length d) w' → w'.cell? ⟨g, 0, none⟩ = some (.int .i64 u.fn) := fun _ h => h.1
  have F1 : ∀ w', Cel3 g (.int .i64 u.fn) (.int .i64 u.pc) (.slice B u.stack.length d) w' → w'.cell? ⟨g, 1, none⟩ = some (.int .i64 u.pc) := fun _ h => h.2.1
  have F2 : ∀ w', Cel3 g (.int .i64 u.fn) (.int .i64 u.pc) (.slice B u.stack.length d) w' → w'.cell? ⟨g, 10, none⟩ = some (.slice B u.stack.length d) := fun _ h => h.2.2
  have hne : ((u.stack.length : Int) == 16) = false := by simp; omega
  have HOLT := Lib.hid (fun k h => (hM.own.lt k h).2)
  have hlen : ∃ n : Nat, Hid (n = u.stack.length) := ⟨_, rfl⟩
  unfold insArr
  rw [h8]
  clear hM e h8 hM2 hBI hbW hi hz0 hz1 hz2 hlen
  go_enter Tryd.func79, Tryd.ntmps79
  go_wp2_with fail
  rw [← HW.out]
  refine region_schE (Cel3 g (.int .i64 u.fn) (.int .i64 u.pc) (.slice B u.stack.length d)) [([0, 1, 2, 3, 4, 5, 6, 7, 8, 9, 10, 11, 12, 13], 14), ([], 15)] [16, 17] 18 (by kernel_rfl) (by kernel_rfl) (by kernel_rfl) (fun _ _ d _ _ h => by cases d <;> exact h) ⟨k0, k1, k10⟩ ?_
  (try simp only [Act.put, List.setIfInBounds_toArray, List.set_cons_zero, List.set_cons_succ]); refine schE_seg ?_; simp only [pickOps, List.getElem?_toArray, List.getElem?_cons_zero, List.getElem?_cons_succ]; (repeat (first | go_big_quiet_skip | (go_big_quiet_want; first | (go_big_quiet_op; first | go_big_quiet_on | ((first | with_reducible refine ⟨_, fun _ _ => rfl, ?_⟩); go_big_quiet_on)) | (simp (contextual := true) [go_sem, F0, F1, F2]; with_reducible refine ⟨_, fun _ _ => rfl, ?_⟩; go_big_quiet_on)))); refine wpQuiet_nil ?_
  clear F0 F1 F2
  go_wp2_with fail
  refine ⟨Cel3 g (.int .i64 u.fn) (.int .i64 u.pc) (.slice B u.stack.length d), ?_, fun _ h => h, ?_⟩
  · have hm := (HM.out.drew.alloc (.cells #[.int .i64 u.fn, .int .i64 u.pc] 105)).blk
    exact ⟨(hm.cell 0).trans (thArr_0 B d), (hm.cell 1).trans (thArr_1 B d), (hm.cell 10).trans (thArr_10 B d HM.out.regs)⟩
  (try simp only [Act.put, List.setIfInBounds_toArray, List.set_cons_zero, List.set_cons_succ]); refine schE_seg ?_; simp only [pickOps, List.getElem?_toArray, List.getElem?_cons_zero, List.getElem?_cons_succ]; (repeat (first | go_big_quiet_skip | (go_big_quiet_want; first | (go_big_quiet_op; first | go_big_quiet_on | ((first | with_reducible refine ⟨_, fun _ _ => rfl, ?_⟩); go_big_quiet_on)) | (simp (contextual := true) [go_sem, HBW]; with_reducible refine ⟨_, fun _ _ => rfl, ?_⟩; go_big_quiet_on)))); refine wpQuiet_nil ?_
  have HOA := Lib.hid (show Own (W.alloc (.cells #[.int .i64 u.fn, .int .i64 u.pc] 105)).drew base 105 2 B u.stack.length d (u.stack.flatMap frVals) from HM.out.own.alloc _)
  have HTW := Lib.hid (show ∀ j x, [Value.int .i64 u.fn, Value.int .i64 u.pc][j]? = some x → (W.alloc (.cells #[.int .i64 u.fn, .int .i64 u.pc] 105)).drew.cell? ((⟨W.heap.size, 0, none⟩ : Addr).add j) = some x from twocell W (.int .i64 u.fn) (.int .i64 u.pc) 105)
  have c1 : Hid (u.stack.length + 1 ≤ maxLen) := by unfold maxLen; show _ ≤ _; omega
  have hsz : base ≤ W.heap.size := Nat.le_of_lt HM.out.size
  go_wp2_with (at_builtin; go_must (refine wpList_append_1 _ rfl _ _ 54 rfl base 105 i0 _ 2 16 Tryd.underlying54 HI.out HZ0.out HZ1.out HZ2.out rfl (by decide) _ _ _ _ rfl HOA.out ⟨W.heap.size, 0, none⟩ 1 [.int .i64 u.fn, .int .i64 u.pc] rfl rfl HTW.out (by simp [Value.oneCell']) c1.out (by omega) (by show base ≤ (W.alloc _).heap.size; rw [World.size_alloc]; omega) ?_); intro A' c' w5 hown1 hgrow1 hat1)
  have hBg : Blk w5 g 56 (thArr u B d) := ((HM.out.alloc (.cells #[.int .i64 u.fn, .int .i64 u.pc] 105)).drew.blk).grown hgrow1 (fun e => by
    rcases HM.out.ne with h | h
    · rw [h] at e; cases e
    · exact h e.symm)
  have hBi : Blk w5 w.heap.size 64 #[.int .i64 8, .int .i64 i.a, .int .i64 i.b, .int .i64 i.c, .int .i64 i.n] := ((HBI.out.alloc (.cells #[.int .i64 u.fn, .int .i64 u.pc] 105)).drew).grown hgrow1 (fun e => by
    have := HOLT.out _ e.symm
    omega)
  have hneA : ob A' = none ∨ ob A' ≠ some g := by
    rcases hat1 with h | h
    · rw [h]; exact HM.out.ne
    · right
      intro h2
      rw [h] at h2
      injection h2 with h2
      have : (W.alloc (.cells #[.int .i64 u.fn, .int .i64 u.pc] 105)).drew.heap.size = W.heap.size + 1 := World.size_alloc _ _
      have := HM.out.blk.lt
      omega
  have hbel : Below base W w5 := ((Below.refl base W).alloc hsz (.cells #[.int .i64 u.fn, .int .i64 u.pc] 105)).drew.grown hgrow1 (by show base ≤ (W.alloc _).heap.size; rw [World.size_alloc]; omega) (fun k hk => (HM.out.own.lt k hk).1)
  have hflat : (u.stack ++ [(u.fn, u.pc)]).flatMap frVals = u.stack.flatMap frVals ++ [.int .i64 u.fn, .int .i64 u.pc] := by simp [frVals]
  have hM5 : ThMem (w5.setCell ⟨g, 10, none⟩ (.slice A' (u.stack.length + 1) c')) base g { u with stack := u.stack ++ [(u.fn, u.pc)] } A' c' := by
    have hlen : (u.stack ++ [(u.fn, u.pc)]).length = u.stack.length + 1 := by simp
    refine ⟨?_, ?_, hneA, HM.out.regs, HM.out.ge⟩
    · have := hBg.set_ 10 (.slice A' (u.stack.length + 1) c')
      rw [← hlen, thArr_set10s B A' d c' _ HM.out.regs, hlen] at this
      exact this
    · show Own _ base _ 2 A' (u.stack ++ [(u.fn, u.pc)]).length c' ((u.stack ++ [(u.fn, u.pc)]).flatMap frVals)
      rw [hlen, hflat]
      exact hown1.setCell ⟨g, 10, none⟩ _ hneA
  have q0 := hBg.cell 0
  have q1 := hBg.cell 1
  have q10 := hBg.cell 10
  rw [thArr_0] at q0
  rw [thArr_1] at q1
  rw [thArr_10 B d HM.out.regs] at q10
  have f0 := hBg.frozen 0
  have f1 := hBg.frozen 1
  have f10 := hBg.frozen 10
  have q4 := hBi.cell 4
  simp only [List.getElem?_toArray, List.getElem?_cons_succ, List.getElem?_cons_zero] at q4
  have hgne : w.heap.size ≠ g := by omega
  have HM5 := Lib.hid hM5
  have HB5 := Lib.hid (HBW.out.trans hbel)
  refine ⟨Cel3 g (.int .i64 u.fn) (.int .i64 u.pc) (.slice B u.stack.length d), ⟨q0, q1, q10⟩, fun _ h => h, ?_⟩
  clear hBg hBi hneA hbel hflat hM5 hown1 hgrow1 hat1 HOA HTW HOLT
  (try simp only [Act.put, List.setIfInBounds_toArray, List.set_cons_zero, List.set_cons_succ]); refine schE_last ?_; simp only [pickOps, List.getElem?_toArray, List.getElem?_cons_zero, List.getElem?_cons_succ]; (repeat (first | go_big_quiet_skip | (go_big_quiet_want; first | (go_big_quiet_op; first | go_big_quiet_on | ((first | with_reducible refine ⟨_, fun _ _ => rfl, ?_⟩); go_big_quiet_on)) | (simp (contextual := true) [go_sem, HBW]; with_reducible refine ⟨_, fun _ _ => rfl, ?_⟩; go_big_quiet_on)))); refine wpQuiet_nil ?_
  go_wp2_with fail
  go_ret
  refine ⟨rfl, ⟨A', c', ?_⟩, ?_⟩
  · have h1 := HM5.out.set 0 (.int .i64 i.n) (thArr_set0 _ A' c' i.n) rfl rfl HM5.out.regs
    have h2 := h1.set 1 (.int .i64 0) (thArr_set1 _ A' c' 0) rfl rfl HM5.out.regs
    exact h2
  · exact ((HB5.out.setCell (p := ⟨g, 10, none⟩) HM5.out.ge _).setCell (p := ⟨g, 0, none⟩) HM5.out.ge _).setCell (p := ⟨g, 1, none⟩) HM5.out.ge _
theorem moves_empty (h9 : i.op = 9) (hl : u.stack.length = 0) : Calls Tryd.prog 79 #[.pointer (some ⟨g, 0, none⟩), .agg (insArr i)] w (MovesOut w base g (moveT i u)) := by
  have e : moveT i u = none := by unfold moveT; rw [h9, if_neg (by decide), if_neg (by decide), if_neg (by decide), if_pos rfl, if_pos hl]
  rw [e]
  have HM := Lib.hid hM
  have hc := hM.blk.cell 10
  rw [thArr_10 B d hM.regs, hl] at hc
  have hgg : g < w.heap.size := hM.blk.lt
  unfold insArr
  rw [h9]
  clear hM e h9 hl
  go_enter Tryd.func79, Tryd.ntmps79
  go_wp2_with fail
  go_ret
  exact ⟨rfl, (Below.refl _ _).alloc (Nat.le_of_lt HM.out.size) _⟩
set_option maxHeartbeats 2000000 in
set_option maxRecDepth 100000 in
theorem moves_ret (h9 : i.op = 9) (k : Nat) (hl : u.stack.length = k + 1) (hl2 : k < 16) : Calls Tryd.prog 79 #[.pointer (some ⟨g, 0, none⟩), .agg (insArr i)] w (MovesOut w base g (moveT i u)) := by
  have hk : k < u.stack.length := by omega
  have e : moveT i u = some { u with fn := u.stack[k].1, pc := u.stack[k].2, stack := u.stack.take k } := by
    unfold moveT
    rw [h9, if_neg (by decide), if_neg (by decide), if_neg (by decide), if_pos rfl, if_neg (by omega)]
    have e1 : u.stack.length - 1 = k := by omega
    have e2 : u.stack.getD k (0, 0) = u.stack[k] := by simp [hk]
    rw [e1, e2]
  rw [e]
  have hz : base ≤ w.heap.size := Nat.le_of_lt hM.size
  have hgg : g < w.heap.size := hM.blk.lt
  have hc10 := hM.blk.cell 10
  rw [thArr_10 B d hM.regs, hl] at hc10
  have hW : ∃ W : World, Hid (W = w.alloc (.cells #[.int .i64 9, .int .i64 i.a, .int .i64 i.b, .int .i64 i.c, .int .i64 i.n] 64)) := ⟨_, rfl⟩
  obtain ⟨W, HW⟩ := hW
  have hM2 : ThMem W base g u B d := by rw [HW.out]; exact hM.alloc _
  have hbW : Below base w W := by rw [HW.out]; exact (Below.refl _ _).alloc hz _
  have HM := Lib.hid hM2
  have HBW := Lib.hid hbW
  have HOT := Lib.hid (own_take hM2.own (show k ≤ u.stack.length by omega) (by omega))
  have hcd : k + 1 ≤ d := by
    rcases hM2.own.2 with ⟨_, h0⟩ | ⟨_, cap, _, hv, _, _, hnc, _⟩
    · omega
    · injection hv with _ _ h3
      omega
  have hdm : d ≤ maxLen := by
    rcases hM2.own.2 with ⟨_, h0⟩ | ⟨_, cap, _, hv, _, _, _, hcm, _⟩
    · omega
    · injection hv with _ _ h3
      omega
  unfold maxLen at hdm
  obtain ⟨b, off, rfl, hbl, hx0, hx1⟩ := fr_cells hM2.own.rowN k hk
  have hbg : b ≠ g := by
    intro h
    rcases hM2.ne with h2 | h2
    · cases h2
    · exact h2 (by rw [← h]; rfl)
  have k10 : W.cell? ⟨g, 10, none⟩ = some (.slice (some ⟨b, off, none⟩) (k + 1) d) := by
    have := (hM2.blk.cell 10).trans (thArr_10 _ d hM2.regs)
    rw [hl] at this
    exact this
  have q0 := (hM2.blk.cell 0).trans (thArr_0 _ d)
  have q1 := (hM2.blk.cell 1).trans (thArr_1 _ d)
  have f0 := hM2.blk.frozen 0
  have f1 := hM2.blk.frozen 1
  have f10 := hM2.blk.frozen 10
  have HL := Lib.hid hl
  generalize u.stack[k] = x at *
  obtain ⟨x1, x2⟩ := x
  simp only at hx0 hx1
  have hS : CelA ⟨g, 10, none⟩ ⟨b, off + k * 2, none⟩ ⟨b, off + k * 2 + 1, none⟩ (.slice (some ⟨b, off, none⟩) (k + 1) d) (.int .i64 x1) (.int .i64 x2) W := ⟨k10, hx0, hx1⟩
  have F0 : ∀ w', CelA ⟨g, 10, none⟩ ⟨b, off + k * 2, none⟩ ⟨b, off + k * 2 + 1, none⟩ (.slice (some ⟨b, off, none⟩) (k + 1) d) (.int .i64 x1) (.int .i64 x2) w' → w'.cell? ⟨g, 10, none⟩ = some (.slice (some ⟨b, off, none⟩) (k + 1) d) := fun _ h => h.1
  have F1 : ∀ w', CelA ⟨g, 10, none⟩ ⟨b, off + k * 2, none⟩ ⟨b, off + k * 2 + 1, none⟩ (.slice (some ⟨b, off, none⟩) (k + 1) d) (.int .i64 x1) (.int .i64 x2) w' → w'.cell? ⟨b, off + k * 2, none⟩ = some (.int .i64 x1) := fun _ h => h.2.1
  have F2 : ∀ w', CelA ⟨g, 10, none⟩ ⟨b, off + k * 2, none⟩ ⟨b, off + k * 2 + 1, none⟩ (.slice (some ⟨b, off, none⟩) (k + 1) d) (.int .i64 x1) (.int .i64 x2) w' → w'.cell? ⟨b, off + k * 2 + 1, none⟩ = some (.int .i64 x2) := fun _ h => h.2.2
  have HS := Lib.hid hS
  unfold insArr
  rw [h9]
  clear hM e h9 hM2 hbW hx0 hx1 hS hl hk
  go_enter Tryd.func79, Tryd.ntmps79
  go_wp2_with fail
  rw [← HW.out]
  refine region_schE (CelA ⟨g, 10, none⟩ ⟨b, off + k * 2, none⟩ ⟨b, off + k * 2 + 1, none⟩ (.slice (some ⟨b, off, none⟩) (k + 1) d) (.int .i64 x1) (.int .i64 x2)) [([0, 1, 2, 3, 4, 5, 6, 7, 8, 9, 10, 11, 12, 13, 14, 15, 16, 17, 18, 19, 20, 21, 22, 23, 24, 25, 26], 27), ([28, 29], 30)] [31, 32] 33 (by kernel_rfl) (by kernel_rfl) (by kernel_rfl) (fun _ _ d _ _ h => by cases d <;> exact h) HS.out ?_
  (try simp only [Act.put, List.setIfInBounds_toArray, List.set_cons_zero, List.set_cons_succ]); refine schE_seg ?_; simp only [pickOps, List.getElem?_toArray, List.getElem?_cons_zero, List.getElem?_cons_succ]; (repeat (first | go_big_quiet_skip | (go_big_quiet_want; first | (go_big_quiet_op; first | go_big_quiet_on | ((first | with_reducible refine ⟨_, fun _ _ => rfl, ?_⟩); go_big_quiet_on)) | (simp (contextual := true) [go_sem, F0, F1, F2]; with_reducible refine ⟨_, fun _ _ => rfl, ?_⟩; go_big_quiet_on)))); refine wpQuiet_nil ?_
  clear F0 F1 F2
  go_wp2_with fail
  have HS1 := Lib.hid (HS.out.far ⟨g, 0, none⟩ (.int .i64 x1) (by simp) (fun h => hbg (congrArg Addr.block h)) (fun h => hbg (congrArg Addr.block h)))
  refine ⟨_, HS1.out, fun _ h => h, ?_⟩
  (try simp only [Act.put, List.setIfInBounds_toArray, List.set_cons_zero, List.set_cons_succ]); refine schE_seg ?_; simp only [pickOps, List.getElem?_toArray, List.getElem?_cons_zero, List.getElem?_cons_succ]; (repeat (first | go_big_quiet_skip | (go_big_quiet_want; first | (go_big_quiet_op; first | go_big_quiet_on | ((first | with_reducible refine ⟨_, fun _ _ => rfl, ?_⟩); go_big_quiet_on)) | (simp (contextual := true) [go_sem, HBW]; with_reducible refine ⟨_, fun _ _ => rfl, ?_⟩; go_big_quiet_on)))); refine wpQuiet_nil ?_
  go_wp2_with fail
  have HS2 := Lib.hid (HS1.out.far ⟨g, 1, none⟩ (.int .i64 x2) (by simp) (fun h => hbg (congrArg Addr.block h)) (fun h => hbg (congrArg Addr.block h)))
  refine ⟨_, HS2.out, fun _ h => h, ?_⟩
  (try simp only [Act.put, List.setIfInBounds_toArray, List.set_cons_zero, List.set_cons_succ]); refine schE_last ?_; simp only [pickOps, List.getElem?_toArray, List.getElem?_cons_zero, List.getElem?_cons_succ]; (repeat (first | go_big_quiet_skip | (go_big_quiet_want; first | (go_big_quiet_op; first | go_big_quiet_on | ((first | with_reducible refine ⟨_, fun _ _ => rfl, ?_⟩); go_big_quiet_on)) | (simp (contextual := true) [go_sem, HBW]; with_reducible refine ⟨_, fun _ _ => rfl, ?_⟩; go_big_quiet_on)))); refine wpQuiet_nil ?_
  go_wp2_with fail
  go_ret
  have hlt : (u.stack.take k).length = k := by rw [List.length_take, HL.out]; omega
  refine ⟨rfl, ⟨some ⟨b, off, none⟩, d, ?_⟩, ?_⟩
  · have h1 := HM.out.set 0 (.int .i64 x1) (thArr_set0 _ _ d x1) rfl rfl HM.out.regs
    have h2 := h1.set 1 (.int .i64 x2) (thArr_set1 _ _ d x2) rfl rfl HM.out.regs
    refine ⟨?_, ?_, HM.out.ne, HM.out.regs, HM.out.ge⟩
    · have h3 := h2.blk.set_ 10 (.slice (some ⟨b, off, none⟩) k d)
      have h4 := thArr_set10s (t := { { u with fn := x1 } with pc := x2 }) (some ⟨b, off, none⟩) (some ⟨b, off, none⟩) d d (u.stack.take k) HM.out.regs
      rw [hlt] at h4
      rw [h4] at h3
      exact h3
    · show Own _ base _ 2 _ (u.stack.take k).length d ((u.stack.take k).flatMap frVals)
      rw [hlt, flat_take]
      exact ((HOT.out.setCell ⟨g, 0, none⟩ _ HM.out.ne).setCell ⟨g, 1, none⟩ _ HM.out.ne).setCell ⟨g, 10, none⟩ _ HM.out.ne
  · exact (((HBW.out.setCell (p := ⟨g, 0, none⟩) HM.out.ge _).setCell (p := ⟨g, 1, none⟩) HM.out.ge _).setCell (p := ⟨g, 10, none⟩) HM.out.ge _).drew
end
end Go.Proofs.YtkfpnppppmccdaaDoor
namespace Go.Proofs.YtkfpnppppmccdaaDoor
open Go.RowKit
theorem moves_any (w : World) (base g : Nat) (u : Th) (B : Option Addr) (d : Nat) (i : Ins) (hM : ThMem w base g u B d) (ha0 : 0 ≤ i.a) (ha8 : i.a < 8) (hl : u.stack.length ≤ 16) :
    Calls Tryd.prog 79 #[.pointer (some ⟨g, 0, none⟩), .agg (insArr i)] w (MovesOut w base g (moveT i u)) := by
  by_cases h7 : i.op = 7
  · exact moves_if w base g u B d i hM h7 ha0 ha8
  by_cases h6 : i.op = 6
  · exact moves_jump w base g u B d i hM h6
  by_cases h8 : i.op = 8
  · by_cases h16 : u.stack.length = 16
    · exact moves_full w base g u B d i hM h8 h16
    · exact moves_call w base g u B d i hM h8 (by omega)
  by_cases h9 : i.op = 9
  · cases hk : u.stack.length with
    | zero => exact moves_empty w base g u B d i hM h9 hk
    | succ k => exact moves_ret w base g u B d i hM h9 k hk (by omega)
  by_cases h14 : i.op = 14
  · exact moves_exit w base g u B d i hM h14
  · exact moves_other w base g u B d i hM h7 h6 h8 h9 h14
def lessV (b c : Int) : Int := if b < c then 1 else 0
/-- What an op makes of two numbers; none: nothing. -/
def reckonV (op b c : Int) : Option Int :=
  if op = 2 then some (wrap64 (b + c)) else if op = 3 then some (wrap64 (b - c)) else if op = 4 then some (wrap64 (b * c)) else if op = 5 then some (lessV b c) else none
theorem pair_add (b c : Int) (w : World) : Calls Tryd.prog 98 #[.agg #[.int .i64 b, .int .i64 c]] w fun e w' => e = .returned (.int .i64 (wrap64 (b + c))) ∧ Below w.heap.size w w' := by
  go_enter Tryd.func98, Tryd.ntmps98
  go_wp2_with fail
  go_ret
  exact ⟨rfl, (Below.refl _ _).alloc (Nat.le_refl _) _⟩
theorem pair_sub (b c : Int) (w : World) : Calls Tryd.prog 99 #[.agg #[.int .i64 b, .int .i64 c]] w fun e w' => e = .returned (.int .i64 (wrap64 (b - c))) ∧ Below w.heap.size w w' := by
  go_enter Tryd.func99, Tryd.ntmps99
  go_wp2_with fail
  go_ret
  exact ⟨rfl, (Below.refl _ _).alloc (Nat.le_refl _) _⟩
theorem pair_mul (b c : Int) (w : World) : Calls Tryd.prog 100 #[.agg #[.int .i64 b, .int .i64 c]] w fun e w' => e = .returned (.int .i64 (wrap64 (b * c))) ∧ Below w.heap.size w w' := by
  go_enter Tryd.func100, Tryd.ntmps100
  go_wp2_with fail
  go_ret
  exact ⟨rfl, (Below.refl _ _).alloc (Nat.le_refl _) _⟩
theorem pair_less (b c : Int) (w : World) : Calls Tryd.prog 101 #[.agg #[.int .i64 b, .int .i64 c]] w fun e w' => e = .returned (.int .i64 (lessV b c)) ∧ Below w.heap.size w w' := by
  unfold lessV
  by_cases h : b < c
  · rw [if_pos h]
    go_enter Tryd.func101, Tryd.ntmps101
    go_wp2_with fail
    go_ret
    exact ⟨rfl, (Below.refl _ _).alloc (Nat.le_refl _) _⟩
  · rw [if_neg h]
    have h' : decide (b < c) = false := by simpa using h
    go_enter Tryd.func101, Tryd.ntmps101
    go_wp2_with fail
    go_ret
    exact ⟨rfl, (Below.refl _ _).alloc (Nat.le_refl _) _⟩
theorem reckons_2 (w : World) : Calls Tryd.prog 78 #[.int .i64 2] w fun e w' => e = .returned (.func (.func 98) #[] #[]) ∧ w = w' := by
  go_enter Tryd.func78, Tryd.ntmps78
  go_wp2_with fail
  go_ret
  exact ⟨rfl, rfl⟩
theorem reckons_3 (w : World) : Calls Tryd.prog 78 #[.int .i64 3] w fun e w' => e = .returned (.func (.func 99) #[] #[]) ∧ w = w' := by
  go_enter Tryd.func78, Tryd.ntmps78
  go_wp2_with fail
  go_ret
  exact ⟨rfl, rfl⟩
theorem reckons_4 (w : World) : Calls Tryd.prog 78 #[.int .i64 4] w fun e w' => e = .returned (.func (.func 100) #[] #[]) ∧ w = w' := by
  go_enter Tryd.func78, Tryd.ntmps78
  go_wp2_with fail
  go_ret
  exact ⟨rfl, rfl⟩
theorem reckons_5 (w : World) : Calls Tryd.prog 78 #[.int .i64 5] w fun e w' => e = .returned (.func (.func 101) #[] #[]) ∧ w = w' := by
  go_enter Tryd.func78, Tryd.ntmps78
  go_wp2_with fail
  go_ret
  exact ⟨rfl, rfl⟩
theorem reckons_no (op : Int) (h2 : op ≠ 2) (h3 : op ≠ 3) (h4 : op ≠ 4) (h5 : op ≠ 5) (w : World) : Calls Tryd.prog 78 #[.int .i64 op] w fun e w' => e = .returned .nilFunc ∧ w = w' := by
  have d2 : (op == 2) = false := by simpa using h2
  have d3 : (op == 3) = false := by simpa using h3
  have d4 : (op == 4) = false := by simpa using h4
  have d5 : (op == 5) = false := by simpa using h5
  clear h2 h3 h4 h5
  go_enter Tryd.func78, Tryd.ntmps78
  go_wp2_with fail
  go_ret
  exact ⟨rfl, rfl⟩
end Go.Proofs.YtkfpnppppmccdaaDoor
namespace Go.Proofs.YtkfpnppppmccdaaDoor
open Go.RowKit
/-- The registers behind an instruction. -/
def regs1 (i : Ins) (t : Th) (ans : Int) : List Int :=
  match reckonV i.op (regOf t i.b) (regOf t i.c) with
  | some v => t.regs.set i.a.toNat v
  | none => if i.op = 1 then t.regs.set i.a.toNat i.n else if opAsks i.op = true then t.regs.set i.a.toNat ans else t.regs
/-- What it tells. -/
def tells1 (i : Ins) (t : Th) (ans : Int) : Int := if i.op = 15 then regOf t i.a else if opAsks i.op = true then ans else 0
def doneT : Th := ⟨0, 0, [0, 0, 0, 0, 0, 0, 0, 0], [], true⟩
/-- The step of a thread that fits. -/
def stepI (i : Ins) (t : Th) (ans : Int) : Th × Int := match moveT i { t with regs := regs1 i t ans, pc := t.pc + 1 } with
  | none => (doneT, 0)
  | some u => (u, tells1 i t ans)
def stepT (fs : List Fn) (t : Th) (ans : Int) : Th × Int × Bool := if t.done = true then (t, 0, false) else ((stepI (insAt fs t.fn t.pc) t ans).1, (stepI (insAt fs t.fn t.pc) t ans).2, true)
/-- What a step answers. -/
def DoOut (w : World) (r : Th × Int × Bool) (e : Ending) (w' : World) : Prop :=
  ∃ B d, e = .returned (.tuple #[.agg (thArr r.1 B d), .int .i64 r.2.1, .bool r.2.2]) ∧ ThOk w' w'.heap.size r.1 B d ∧ (∀ k, ob B = some k → w.heap.size ≤ k) ∧ Below w.heap.size w w'
theorem ThMem.ok {w : World} {base g : Nat} {u : Th} {B : Option Addr} {d : Nat} (h : ThMem w base g u B d) : ThOk w w.heap.size u B d := by
  refine ⟨h.regs, h.own.rowN, ?_, ?_⟩
  · rcases h.own.2 with ⟨_, h0⟩ | ⟨_, cap, _, hv, _, _, hnc, _⟩
    · omega
    · injection hv with _ _ h3
      omega
  · rcases h.own.2 with ⟨hv, h0⟩ | ⟨_, cap, _, hv, _, _, _, hcm, _⟩
    · injection hv with _ _ h3
      rw [h3]
      unfold maxLen
      omega
    · injection hv with _ _ h3
      omega
theorem neqf_2 (w : World) : (binOp .neq 110 (.func (.func 98) #[] #[]) .nilFunc).run Tryd.prog w = .ok (.bool true) w := by kernel_rfl
theorem neqf_3 (w : World) : (binOp .neq 110 (.func (.func 99) #[] #[]) .nilFunc).run Tryd.prog w = .ok (.bool true) w := by kernel_rfl
theorem neqf_4 (w : World) : (binOp .neq 110 (.func (.func 100) #[] #[]) .nilFunc).run Tryd.prog w = .ok (.bool true) w := by kernel_rfl
theorem neqf_5 (w : World) : (binOp .neq 110 (.func (.func 101) #[] #[]) .nilFunc).run Tryd.prog w = .ok (.bool true) w := by kernel_rfl
theorem neqf_no (w : World) : (binOp .neq 110 .nilFunc .nilFunc).run Tryd.prog w = .ok (.bool false) w := by kernel_rfl
def outOf (o : Option Th) (n : Int) : Th × Int := match o with
  | none => (doneT, 0)
  | some u => (u, n)
theorem stepI_of {i : Ins} {t : Th} {ans pc n : Int} {rs : List Int} (h1 : regs1 i t ans = rs) (h2 : tells1 i t ans = n) (h3 : t.pc = pc) : stepI i t ans = outOf (moveT i { t with regs := rs, pc := pc + 1 }) n := by
  unfold stepI outOf
  rw [h1, h2, h3]
theorem thArr_done : thArr doneT none 0 = #[.int .i64 0, .int .i64 0, .int .i64 0, .int .i64 0, .int .i64 0, .int .i64 0, .int .i64 0, .int .i64 0, .int .i64 0, .int .i64 0, .slice none 0 0, .bool true] := rfl
theorem thArr_setreg (t : Th) (A : Option Addr) (c a : Nat) (ha : a < 8) (h : t.regs.length = 8) (v : Int) : (thArr t A c).setIfInBounds (2 + a) (.int .i64 v) = thArr { t with regs := t.regs.set a v } A c := by
  unfold thArr
  rw [List.setIfInBounds_toArray]
  congr 1
  rw [List.append_assoc, List.append_assoc, List.set_append_right _ _ (by simp)]
  simp only [List.length_cons, List.length_nil, Nat.zero_add, Nat.reduceAdd, Nat.add_sub_cancel_left]
  rw [List.set_append_left _ _ (by simp; omega), List.map_set]
set_option maxHeartbeats 8000000 in
set_option maxRecDepth 100000 in
theorem do_run (t : Th) (A B : Option Addr) (c d : Nat) (fs : List Fn) (ans : Int) (w : World) (hT : Tab w) (_hm0 : fs.length ≤ maxLen) (hf : FnsOk w w.heap.size A fs) (ht : ThOk w w.heap.size t B d) (hfit : fitsT fs t = true) (hdn : t.done = false) :
    Calls Tryd.prog 53 #[.agg #[.slice A fs.length c], .agg (thArr t B d), .int .i64 ans] w (DoOut w (stepT fs t ans)) := by
  obtain ⟨hrun, k, m, ek, em, hk, hm, ei⟩ := fits_place hfit hdn
  have hst : t.stack.length ≤ 16 := by
    unfold fitsT fitsP at hfit
    rw [hdn, Bool.false_or, Bool.and_eq_true, Bool.and_eq_true, Bool.and_eq_true, decide_eq_true_eq] at hfit
    exact hfit.2.2.1
  have HR := Lib.hid (run_ins hrun hk hm)
  have HSTEP := Lib.hid (show stepT fs t ans = ((stepI fs[k].code[m] t ans).1, (stepI fs[k].code[m] t ans).2, true) by unfold stepT; rw [hdn, ei]; rfl)
  have hpc : m < 64 := Nat.lt_of_lt_of_le hm (fn_ok ((run_fn hrun).2.2 k hk)).2.1
  have h0 := thArr_0 (t := t) B d
  have h1 := thArr_1 (t := t) B d
  have h11 := thArr_11 B d ht.regs
  rw [ek] at h0
  rw [em] at h1
  rw [hdn] at h11
  have HPC := Lib.hid em
  have HTA := Lib.hid hT
  have HT := Lib.hid ht
  have HREG := Lib.hid (fun (x : Nat) (hx : x < 8) => thArr_reg B d ht.regs x hx)
  have HSZ := Lib.hid (show (Tryd.prog.info? 56).map (·.size) = some (thArr t B d).size by rw [thArr_size B d ht.regs]; exact Tryd.infoTh)
  unfold maxLen at _hm0
  generalize hX : thArr t B d = X at *
  have HX := Lib.hid hX
  have hb0 := below3 w (.cells #[.slice A fs.length c] 24) (.cells X 56) (.cells #[.int .i64 0, .int .i64 0, .int .i64 0, .int .i64 0, .int .i64 0, .int .i64 0, .int .i64 0, .int .i64 0, .int .i64 0, .int .i64 0, .slice none 0 0, .bool false] 56)
  have hW : ∃ W : World, Hid (W = ((w.alloc (.cells #[.slice A fs.length c] 24)).alloc (.cells X 56)).alloc (.cells #[.int .i64 0, .int .i64 0, .int .i64 0, .int .i64 0, .int .i64 0, .int .i64 0, .int .i64 0, .int .i64 0, .int .i64 0, .int .i64 0, .slice none 0 0, .bool false] 56)) := ⟨_, rfl⟩
  obtain ⟨W, HW⟩ := hW
  have hBP : Blk W w.heap.size 24 #[.slice A fs.length c] := by rw [HW.out]; exact ((Blk.new w _ _).alloc _).alloc _
  have hBT : Blk W (w.heap.size + 1) 56 X := by rw [HW.out]; exact Blk.alloc (heap_alloc2_new w _ _) _
  have hBR : Blk W (w.heap.size + 2) 56 #[.int .i64 0, .int .i64 0, .int .i64 0, .int .i64 0, .int .i64 0, .int .i64 0, .int .i64 0, .int .i64 0, .int .i64 0, .int .i64 0, .slice none 0 0, .bool false] := by rw [HW.out]; exact blk3 w _ _ _ _
  have hWs : W.heap.size = w.heap.size + 3 := by rw [HW.out]; simp
  rw [← HW.out] at hb0
  have HB0 := Lib.hid hb0
  have HBT := Lib.hid hBT
  have HBR := Lib.hid hBR
  obtain ⟨b, off, b2, off2, an, ac, rfl, hbl, hbl2, hma, hna, hc0, hok, i0, i1, i2, i3, i4⟩ := (hf.below hb0).fetch hk hm
  generalize fs[k].code[m] = ins at *
  obtain ⟨op, ia, ib, ic, inn⟩ := ins
  obtain ⟨a, hia⟩ := Int.eq_ofNat_of_zero_le HR.out.a0
  obtain ⟨b', hib⟩ := Int.eq_ofNat_of_zero_le HR.out.b0
  obtain ⟨c', hic⟩ := Int.eq_ofNat_of_zero_le HR.out.c0
  simp only at hia hib hic i0 i1 i2 i3 i4
  subst hia hib hic
  have ha8 : a < 8 := by have := HR.out.a8; simp only at this; omega
  have hb8 : b' < 8 := by have := HR.out.b8; simp only at this; omega
  have hc8 : c' < 8 := by have := HR.out.c8; simp only at this; omega
  unfold maxLen at hna
  have S0 : ∀ w', Below (w.heap.size + 3) W w' → w'.cell? ⟨w.heap.size, 0, none⟩ = some (.slice (some ⟨b, off, none⟩) fs.length c) := fun w' h => (h.cell (p := ⟨w.heap.size, 0, none⟩) (by simp)).trans (hBP.cell 0)
  have S1 : ∀ w', Below (w.heap.size + 3) W w' → w'.cell? ⟨w.heap.size + 1, 0, none⟩ = some (.int .i64 k) := fun w' h => (h.cell (p := ⟨w.heap.size + 1, 0, none⟩) (by simp)).trans ((hBT.cell 0).trans h0)
  have S2 : ∀ w', Below (w.heap.size + 3) W w' → w'.cell? ⟨w.heap.size + 1, 1, none⟩ = some (.int .i64 m) := fun w' h => (h.cell (p := ⟨w.heap.size + 1, 1, none⟩) (by simp)).trans ((hBT.cell 1).trans h1)
  have S3 : ∀ w', Below (w.heap.size + 3) W w' → w'.cell? ⟨b, off + k * 2, none⟩ = some (.slice (some ⟨b2, off2, none⟩) an ac) := fun w' h => (h.cell (p := ⟨b, off + k * 2, none⟩) (by show b < _; omega)).trans hc0
  have S4 : ∀ w', Below (w.heap.size + 3) W w' → w'.cell? ⟨b2, off2 + m * 5, none⟩ = some (.int .i64 op) := fun w' h => (h.cell (p := ⟨b2, off2 + m * 5, none⟩) (by show b2 < _; omega)).trans i0
  have S5 : ∀ w', Below (w.heap.size + 3) W w' → w'.cell? ⟨b2, off2 + m * 5 + 1, none⟩ = some (.int .i64 (a : Int)) := fun w' h => (h.cell (p := ⟨b2, off2 + m * 5 + 1, none⟩) (by show b2 < _; omega)).trans i1
  have S6 : ∀ w', Below (w.heap.size + 3) W w' → w'.cell? ⟨b2, off2 + m * 5 + 2, none⟩ = some (.int .i64 (b' : Int)) := fun w' h => (h.cell (p := ⟨b2, off2 + m * 5 + 2, none⟩) (by show b2 < _; omega)).trans i2
  have S7 : ∀ w', Below (w.heap.size + 3) W w' → w'.cell? ⟨b2, off2 + m * 5 + 3, none⟩ = some (.int .i64 (c' : Int)) := fun w' h => (h.cell (p := ⟨b2, off2 + m * 5 + 3, none⟩) (by show b2 < _; omega)).trans i3
  have S8 : ∀ w', Below (w.heap.size + 3) W w' → w'.cell? ⟨b2, off2 + m * 5 + 4, none⟩ = some (.int .i64 inn) := fun w' h => (h.cell (p := ⟨b2, off2 + m * 5 + 4, none⟩) (by show b2 < _; omega)).trans i4
  have HWS := Lib.hid hWs
  have k11 : W.cell? ⟨w.heap.size + 1, 11, none⟩ = some (.bool false) := (hBT.cell 11).trans h11
  clear hfit hf ht hdn h0 h1 ek em ei hb0 hBP hBT hBR hc0 i0 i1 i2 i3 i4 hok hX hT hWs hrun hbl hbl2
  go_enter Tryd.func53, Tryd.ntmps53
  go_wp2_with fail
  rw [← HW.out]
  refine region_sch (fun w' => Below (w.heap.size + 3) W w') [([0, 1, 2, 3, 4, 5, 6, 7, 8, 9, 10], 11), ([], 12)] [] (by kernel_rfl) (by kernel_rfl) (by kernel_rfl) (fun _ _ d _ _ h => by cases d <;> exact h) (Below.refl _ _).drew ?_
  (try simp only [Act.put, List.setIfInBounds_toArray, List.set_cons_zero, List.set_cons_succ]); refine sch_seg ?_; simp only [pickOps, List.getElem?_toArray, List.getElem?_cons_zero, List.getElem?_cons_succ]; (repeat (first | go_big_quiet_skip | (go_big_quiet_want; first | (go_big_quiet_op; first | go_big_quiet_on | ((first | with_reducible refine ⟨_, fun _ _ => rfl, ?_⟩); go_big_quiet_on)) | (simp (contextual := true) [go_sem, S0, S1, S2, S3, S4, S5, S6, S7, S8]; with_reducible refine ⟨_, fun _ _ => rfl, ?_⟩; go_big_quiet_on)))); refine wpQuiet_nil ?_
  clear S0 S1 S2 S3 S4 S5 S6 S7 S8
  go_wp2_with fail
  refine ⟨fun w' => Below (w.heap.size + 3) W w', ((Below.refl _ _).alloc (by rw [HWS.out]; exact Nat.le_refl _) _).drew, fun _ h => h, ?_⟩
  (try simp only [Act.put, List.setIfInBounds_toArray, List.set_cons_zero, List.set_cons_succ]); refine sch_seg ?_; simp only [pickOps, List.getElem?_toArray, List.getElem?_cons_zero, List.getElem?_cons_succ]; (repeat (first | go_big_quiet_skip | (go_big_quiet_want; first | (go_big_quiet_op; first | go_big_quiet_on | ((first | with_reducible refine ⟨_, fun _ _ => rfl, ?_⟩); go_big_quiet_on)) | (simp (contextual := true) [go_sem, HB0]; with_reducible refine ⟨_, fun _ _ => rfl, ?_⟩; go_big_quiet_on)))); refine wpQuiet_nil ?_
  go_wp2_with fail
  refine ⟨fun w' => Below (w.heap.size + 3) W w', ((Below.refl _ _).alloc (by rw [HWS.out]; exact Nat.le_refl _) _).drew, fun _ h => h, ?_⟩
  refine sch_end ?_
  simp only [pickOps]
  refine wpQuiet_nil ?_
  have hW2 : ∃ W2 : World, Hid (W2 = (W.alloc (.cells #[.int .i64 op, .int .i64 (a : Int), .int .i64 (b' : Int), .int .i64 (c' : Int), .int .i64 inn] 64)).drew) := ⟨_, rfl⟩
  obtain ⟨W2, HW2⟩ := hW2
  rw [← HW2.out, HWS.out]
  have hb2 : Below W.heap.size W W2 := by rw [HW2.out]; exact ((Below.refl _ _).alloc (Nat.le_refl _) _).drew
  have hBI2 : Blk W2 (w.heap.size + 3) 64 #[.int .i64 op, .int .i64 (a : Int), .int .i64 (b' : Int), .int .i64 (c' : Int), .int .i64 inn] := by
    rw [HW2.out, ← HWS.out]
    exact (Blk.new W _ _).drew
  have HB2 := Lib.hid (HB0.out.trans (hb2.mono HB0.out.size))
  have HBT2 := Lib.hid (HBT.out.below hb2 HBT.out.lt)
  have HBR2 := Lib.hid (HBR.out.below hb2 HBR.out.lt)
  have HBI2 := Lib.hid hBI2
  have HW2S := Lib.hid (show W2.heap.size = w.heap.size + 4 by rw [HW2.out]; show (W.alloc _).heap.size = _; rw [World.size_alloc, HWS.out])
  clear hb2 hBI2 k11 h11
  go_wp2_with (refine wpList_load_rowW (by rfl) 56 _ rfl (w.heap.size + 1) rfl 56 X (0, 0) _ HBT2.out Tryd.underlying56 rfl HSZ.out ?_)
  rw [← HX.out]
  refine (vmClone_any t B d W2 (by omega) (HT.out.step HB2.out)).mono ?_
  rintro e w3 ⟨A3, c3, rfl, hO3, hb3⟩
  have HB3 := Lib.hid hb3
  have HO3 := Lib.hid hO3
  have HSZ3 := Lib.hid (show (Tryd.prog.info? 56).map (·.size) = some (thArr t A3 c3).size by rw [thArr_size A3 c3 HT.out.regs]; exact Tryd.infoTh)
  clear hO3 hb3
  have hz3 : W2.heap.size ≤ w3.heap.size := HB3.out.size
  have hkey : ∀ W5 : World, Hid (W5 = (w3.alloc (.cells #[.int .i64 0, .int .i64 0, .int .i64 0, .int .i64 0, .int .i64 0, .int .i64 0, .int .i64 0, .int .i64 0, .int .i64 0, .int .i64 0, .slice none 0 0, .bool false] 56)).setRow w3.heap.size (thArr t A3 c3)) →
      ThMem W5 W2.heap.size w3.heap.size t A3 c3 ∧ Blk W5 (w.heap.size + 3) 64 #[.int .i64 op, .int .i64 (a : Int), .int .i64 (b' : Int), .int .i64 (c' : Int), .int .i64 inn] ∧ Blk W5 (w.heap.size + 1) 56 X ∧ Blk W5 (w.heap.size + 2) 56 #[.int .i64 0, .int .i64 0, .int .i64 0, .int .i64 0, .int .i64 0, .int .i64 0, .int .i64 0, .int .i64 0, .int .i64 0, .int .i64 0, .slice none 0 0, .bool false] ∧ Below W2.heap.size W2 W5 := by
    intro W5 h5
    have hs := HW2S.out
    have hob : ob A3 = none ∨ ob A3 ≠ some w3.heap.size := by
      right
      intro h
      have := (HO3.out.lt _ h).2
      omega
    rw [h5.out]
    refine ⟨⟨(Blk.new w3 _ _).setRow _, ?_, hob, HT.out.regs, hz3⟩, ?_, ?_, ?_, ?_⟩
    · exact (HO3.out.alloc _).kept (grown_setRow _ _ _) hob
    · exact ((HBI2.out.below HB3.out HBI2.out.lt).alloc _).farRow (by omega) _
    · exact ((HBT2.out.below HB3.out HBT2.out.lt).alloc _).farRow (by omega) _
    · exact ((HBR2.out.below HB3.out HBR2.out.lt).alloc _).farRow (by omega) _
    · exact below_setRow (HB3.out.alloc hz3 _) hz3 (by simp; omega) _
  have KEY := Lib.hid hkey
  clear hkey
  go_wp2_with (refine wpList_store_row rfl 56 _ _ rfl w3.heap.size (thArr t A3 c3) rfl rfl 56 _ (Blk.new w3 _ _) HSZ3.out (by rw [thArr_size A3 c3 HT.out.regs]; rfl) (thArr_one t A3 c3) ?_; have hW5 : ∃ W5 : World, Hid (W5 = (w3.alloc (.cells #[.int .i64 0, .int .i64 0, .int .i64 0, .int .i64 0, .int .i64 0, .int .i64 0, .int .i64 0, .int .i64 0, .int .i64 0, .int .i64 0, .slice none 0 0, .bool false] 56)).setRow w3.heap.size (thArr t A3 c3)) := ⟨_, rfl⟩; obtain ⟨W5, HW5⟩ := hW5; rw [← HW5.out]; obtain ⟨hM5, hI5, hT5, hR5, hB5⟩ := KEY.out W5 HW5; have HM5 := Lib.hid hM5; have HI5 := Lib.hid hI5; have HT5 := Lib.hid hT5; have HR5 := Lib.hid hR5; have HB5 := Lib.hid hB5; have j0 := hI5.cell 0; simp only [List.getElem?_toArray, List.getElem?_cons_zero] at j0; clear hM5 hI5 hT5 hR5 hB5)
  have G0 : ∀ w', Below W5.heap.size W5 w' → w'.cell? ⟨w.heap.size + 3, 0, none⟩ = some (.int .i64 op) := fun w' h => (h.cell (p := ⟨w.heap.size + 3, 0, none⟩) HI5.out.lt).trans (HI5.out.cell 0)
  have G1 : ∀ w', Below W5.heap.size W5 w' → w'.cell? ⟨w.heap.size + 3, 1, none⟩ = some (.int .i64 a) := fun w' h => (h.cell (p := ⟨w.heap.size + 3, 1, none⟩) HI5.out.lt).trans (HI5.out.cell 1)
  have G2 : ∀ w', Below W5.heap.size W5 w' → w'.cell? ⟨w.heap.size + 3, 2, none⟩ = some (.int .i64 b') := fun w' h => (h.cell (p := ⟨w.heap.size + 3, 2, none⟩) HI5.out.lt).trans (HI5.out.cell 2)
  have G3 : ∀ w', Below W5.heap.size W5 w' → w'.cell? ⟨w.heap.size + 3, 3, none⟩ = some (.int .i64 c') := fun w' h => (h.cell (p := ⟨w.heap.size + 3, 3, none⟩) HI5.out.lt).trans (HI5.out.cell 3)
  have G4 : ∀ w', Below W5.heap.size W5 w' → w'.cell? ⟨w.heap.size + 3, 4, none⟩ = some (.int .i64 inn) := fun w' h => (h.cell (p := ⟨w.heap.size + 3, 4, none⟩) HI5.out.lt).trans (HI5.out.cell 4)
  have R0 : ∀ w', Below W5.heap.size W5 w' → w'.cell? ⟨w.heap.size + 1, 2 + a, none⟩ = some (.int .i64 (t.regs.getD a 0)) := fun w' h => (h.cell (p := ⟨w.heap.size + 1, 2 + a, none⟩) HT5.out.lt).trans ((HT5.out.cell (2 + a)).trans (HREG.out a ha8))
  have R1 : ∀ w', Below W5.heap.size W5 w' → w'.cell? ⟨w.heap.size + 1, 2 + b', none⟩ = some (.int .i64 (t.regs.getD b' 0)) := fun w' h => (h.cell (p := ⟨w.heap.size + 1, 2 + b', none⟩) HT5.out.lt).trans ((HT5.out.cell (2 + b')).trans (HREG.out b' hb8))
  have R2 : ∀ w', Below W5.heap.size W5 w' → w'.cell? ⟨w.heap.size + 1, 2 + c', none⟩ = some (.int .i64 (t.regs.getD c' 0)) := fun w' h => (h.cell (p := ⟨w.heap.size + 1, 2 + c', none⟩) HT5.out.lt).trans ((HT5.out.cell (2 + c')).trans (HREG.out c' hc8))
  have hkind : (op = 2 ∨ op = 3 ∨ op = 4 ∨ op = 5) ∨ ¬ (op = 2 ∨ op = 3 ∨ op = 4 ∨ op = 5) := Classical.em _
  have hgs : w.heap.size + 4 ≤ w3.heap.size := by have := HW2S.out; omega
  rcases hkind with hkind | hkind
  · rcases hkind with rfl | rfl | rfl | rfl
    · refine (reckons_2 W5).mono ?_
      rintro e w5 ⟨rfl, rfl⟩
      have nf := neqf_2
      go_wp2_with fail
      refine region_schE (fun w' => Below W5.heap.size W5 w') [([0, 1, 2, 3, 4, 5, 6, 7, 8, 9, 10, 11, 12, 13, 15], 14)] [16] 17 (by kernel_rfl) (by kernel_rfl) (by kernel_rfl) (fun _ _ d _ _ h => by cases d <;> exact h) (Below.refl _ _).drew ?_
      (try simp only [Act.put, List.setIfInBounds_toArray, List.set_cons_zero, List.set_cons_succ]); refine schE_seg ?_; simp only [pickOps, List.getElem?_toArray, List.getElem?_cons_zero, List.getElem?_cons_succ]; (repeat (first | go_big_quiet_skip | (go_big_quiet_want; first | (go_big_quiet_op; first | go_big_quiet_on | ((first | with_reducible refine ⟨_, fun _ _ => rfl, ?_⟩); go_big_quiet_on)) | (simp (contextual := true) [go_sem, G1, G2, G3, R1, R2]; with_reducible refine ⟨_, fun _ _ => rfl, ?_⟩; go_big_quiet_on)))); refine wpQuiet_nil ?_
      go_wp2_with fail
      refine (pair_add (t.regs.getD b' 0) (t.regs.getD c' 0) _).mono ?_
      rintro e w6 ⟨rfl, hb6⟩
      have HB6 := Lib.hid ((Below.refl W5.heap.size W5).drew.trans hb6)
      have HM6 := Lib.hid (HM5.out.step HB6.out)
      have HI6 := Lib.hid (HI5.out.below HB6.out HI5.out.lt)
      have HR6 := Lib.hid (HR5.out.below HB6.out HR5.out.lt)
      clear hb6 nf
      go_wp2_with fail
      refine ⟨fun w' => Below W5.heap.size W5 w', HB6.out, fun _ h => h, ?_⟩
      (try simp only [Act.put, List.setIfInBounds_toArray, List.set_cons_zero, List.set_cons_succ]); refine schE_last ?_; simp only [pickOps, List.getElem?_toArray, List.getElem?_cons_zero, List.getElem?_cons_succ]; (repeat (first | go_big_quiet_skip | (go_big_quiet_want; first | (go_big_quiet_op; first | go_big_quiet_on | ((first | with_reducible refine ⟨_, fun _ _ => rfl, ?_⟩); go_big_quiet_on)) | (simp (contextual := true) [go_sem, HB6]; with_reducible refine ⟨_, fun _ _ => rfl, ?_⟩; go_big_quiet_on)))); refine wpQuiet_nil ?_
      have q1 := (HM6.out.blk.cell 1).trans (thArr_1 A3 c3)
      rw [HPC.out] at q1
      have f1 := HM6.out.blk.frozen 1
      have qa := (HM6.out.blk.cell (2 + a)).trans (thArr_reg A3 c3 HM6.out.regs a ha8)
      have fa := HM6.out.blk.frozen (2 + a)
      have g0 := G0 w6 HB6.out
      have g1 := G1 w6 HB6.out
      have g2 := G2 w6 HB6.out
      have g3 := G3 w6 HB6.out
      have g4 := G4 w6 HB6.out
      clear G0 G1 G2 G3 G4 R0 R1 R2 j0
      have HM7 := Lib.hid ((HM6.out.set (2 + a) (.int .i64 (wrap64 (t.regs.getD b' 0 + t.regs.getD c' 0))) (thArr_setreg t A3 c3 a ha8 HM6.out.regs _) rfl rfl (by simpa using HM6.out.regs)).set 1 (.int .i64 ((m : Int) + 1)) (thArr_set1 _ A3 c3 _) rfl rfl (by simpa using HM6.out.regs))
      have HR7 := Lib.hid ((HR6.out.far (p := ⟨w3.heap.size, 2 + a, none⟩) (by show _ ≠ w3.heap.size; omega) (.int .i64 (wrap64 (t.regs.getD b' 0 + t.regs.getD c' 0)))).far (p := ⟨w3.heap.size, 1, none⟩) (by show _ ≠ w3.heap.size; omega) (.int .i64 ((m : Int) + 1)))
      have HB7 := Lib.hid (((HB5.out.trans (HB6.out.mono (Nat.le_of_lt HM5.out.size))).setCell (p := ⟨w3.heap.size, 2 + a, none⟩) hz3 (.int .i64 (wrap64 (t.regs.getD b' 0 + t.regs.getD c' 0)))).setCell (p := ⟨w3.heap.size, 1, none⟩) hz3 (.int .i64 ((m : Int) + 1)))
      have HE := Lib.hid (stepI_of (i := ⟨2, a, b', c', inn⟩) (t := t) (ans := ans) (rs := t.regs.set a (wrap64 (t.regs.getD b' 0 + t.regs.getD c' 0))) (n := 0) rfl rfl HPC.out)
      go_wp2_with fail
      refine (moves_any _ W2.heap.size w3.heap.size _ A3 c3 ⟨2, a, b', c', inn⟩ HM7.out (by simp) (by simp; omega) (by simpa using hst)).mono ?_
      rintro e w8 h8
      have hE := HE.out
      have hE2 := HSTEP.out
      rw [hE] at hE2
      generalize moveT ⟨2, a, b', c', inn⟩ _ = o at h8 hE2
      cases o with
      | none =>
        obtain ⟨rfl, hb8⟩ := h8
        have HR8 := Lib.hid (HR7.out.below hb8 (by have := HW2S.out; omega))
        have HB8 := Lib.hid (HB7.out.trans hb8)
        have HST := Lib.hid hE2
        have HSZD := Lib.hid (show (Tryd.prog.info? 56).map (·.size) = some (thArr doneT none 0).size from Tryd.infoTh)
        clear hb8 hE hE2 g0 g1 g2 g3 g4 q1 f1 qa fa
        go_wp2_with (refine wpList_store_row rfl 56 _ _ rfl (w.heap.size + 2) (thArr doneT none 0) rfl rfl 56 _ HR8.out HSZD.out rfl (thArr_one doneT none 0) ?_)
        refine bodyPost_ret (v := .tuple #[.agg (thArr doneT none 0), .int .i64 0, .bool true]) (results_cell3 Tryd.results53 _ _ (w.heap.size + 2) 56 (thArr doneT none 0) (0, 0) _ rfl (HR8.out.setRow _) Tryd.underlying56 rfl HSZD.out) rfl ⟨none, 0, ?_, ?_, (fun _ h => by cases h), ?_⟩
        · rw [HST.out]; rfl
        · rw [HST.out]; exact ⟨rfl, Row.nil, Nat.le_refl _, Nat.zero_le _⟩
        · exact HB2.out.trans (below_setRow (HB8.out.mono (by have := HW2S.out; omega)) (by have := HW2S.out; omega) (Nat.le_trans (by have := HW2S.out; omega) HB8.out.size) _)
      | some u =>
        obtain ⟨rfl, ⟨B8, d8, hM8⟩, hb8⟩ := h8
        have HR8 := Lib.hid (HR7.out.below hb8 (by have := HW2S.out; omega))
        have HB8 := Lib.hid (HB7.out.trans hb8)
        have HM8 := Lib.hid hM8
        have HST := Lib.hid hE2
        have HSZ8 := Lib.hid (show (Tryd.prog.info? 56).map (·.size) = some (thArr u B8 d8).size by rw [thArr_size B8 d8 hM8.regs]; exact Tryd.infoTh)
        clear hb8 hE hE2 hM8 g0 g1 g2 g3 g4 q1 f1 qa fa
        go_wp2_with (first | (refine wpList_load_rowW (by rfl) 56 _ rfl w3.heap.size rfl 56 (thArr u B8 d8) (0, 0) _ HM8.out.blk Tryd.underlying56 rfl HSZ8.out ?_) | (refine wpList_store_row rfl 56 _ _ rfl (w.heap.size + 2) (thArr u B8 d8) rfl rfl 56 _ HR8.out HSZ8.out (by rw [thArr_size B8 d8 HM8.out.regs]; rfl) (thArr_one u B8 d8) ?_))
        refine bodyPost_ret (results_cell3 Tryd.results53 _ _ (w.heap.size + 2) 56 (thArr u B8 d8) (0, 0) _ rfl (HR8.out.setRow _) Tryd.underlying56 rfl HSZ8.out) rfl ⟨B8, d8, ?_, ?_, (fun k hk => Nat.le_trans (by have := HW2S.out; omega) (HM8.out.own.lt k hk).1), ?_⟩
        · rw [HST.out]; rfl
        · rw [HST.out]
          have hk := HM8.out.ok
          exact ⟨hk.regs, by rw [setRow_size]; exact (own_setRow HM8.out.own (g := w.heap.size + 2) (by have := HW2S.out; omega) _).rowN.more (by rw [setRow_size]; exact Nat.le_refl _), hk.len, hk.cap⟩
        · exact HB2.out.trans (below_setRow (HB8.out.mono (by have := HW2S.out; omega)) (by have := HW2S.out; omega) (Nat.le_trans (by have := HW2S.out; omega) HB8.out.size) _)
    · refine (reckons_3 W5).mono ?_
      rintro e w5 ⟨rfl, rfl⟩
      have nf := neqf_3
      go_wp2_with fail
      refine region_schE (fun w' => Below W5.heap.size W5 w') [([0, 1, 2, 3, 4, 5, 6, 7, 8, 9, 10, 11, 12, 13, 15], 14)] [16] 17 (by kernel_rfl) (by kernel_rfl) (by kernel_rfl) (fun _ _ d _ _ h => by cases d <;> exact h) (Below.refl _ _).drew ?_
      (try simp only [Act.put, List.setIfInBounds_toArray, List.set_cons_zero, List.set_cons_succ]); refine schE_seg ?_; simp only [pickOps, List.getElem?_toArray, List.getElem?_cons_zero, List.getElem?_cons_succ]; (repeat (first | go_big_quiet_skip | (go_big_quiet_want; first | (go_big_quiet_op; first | go_big_quiet_on | ((first | with_reducible refine ⟨_, fun _ _ => rfl, ?_⟩); go_big_quiet_on)) | (simp (contextual := true) [go_sem, G1, G2, G3, R1, R2]; with_reducible refine ⟨_, fun _ _ => rfl, ?_⟩; go_big_quiet_on)))); refine wpQuiet_nil ?_
      go_wp2_with fail
      refine (pair_sub (t.regs.getD b' 0) (t.regs.getD c' 0) _).mono ?_
      rintro e w6 ⟨rfl, hb6⟩
      have HB6 := Lib.hid ((Below.refl W5.heap.size W5).drew.trans hb6)
      have HM6 := Lib.hid (HM5.out.step HB6.out)
      have HI6 := Lib.hid (HI5.out.below HB6.out HI5.out.lt)
      have HR6 := Lib.hid (HR5.out.below HB6.out HR5.out.lt)
      clear hb6 nf
      go_wp2_with fail
      refine ⟨fun w' => Below W5.heap.size W5 w', HB6.out, fun _ h => h, ?_⟩
      (try simp only [Act.put, List.setIfInBounds_toArray, List.set_cons_zero, List.set_cons_succ]); refine schE_last ?_; simp only [pickOps, List.getElem?_toArray, List.getElem?_cons_zero, List.getElem?_cons_succ]; (repeat (first | go_big_quiet_skip | (go_big_quiet_want; first | (go_big_quiet_op; first | go_big_quiet_on | ((first | with_reducible refine ⟨_, fun _ _ => rfl, ?_⟩); go_big_quiet_on)) | (simp (contextual := true) [go_sem, HB6]; with_reducible refine ⟨_, fun _ _ => rfl, ?_⟩; go_big_quiet_on)))); refine wpQuiet_nil ?_
      have q1 := (HM6.out.blk.cell 1).trans (thArr_1 A3 c3)
      rw [HPC.out] at q1
      have f1 := HM6.out.blk.frozen 1
      have qa := (HM6.out.blk.cell (2 + a)).trans (thArr_reg A3 c3 HM6.out.regs a ha8)
      have fa := HM6.out.blk.frozen (2 + a)
      have g0 := G0 w6 HB6.out
      have g1 := G1 w6 HB6.out
      have g2 := G2 w6 HB6.out
      have g3 := G3 w6 HB6.out
      have g4 := G4 w6 HB6.out
      clear G0 G1 G2 G3 G4 R0 R1 R2 j0
      have HM7 := Lib.hid ((HM6.out.set (2 + a) (.int .i64 (wrap64 (t.regs.getD b' 0 - t.regs.getD c' 0))) (thArr_setreg t A3 c3 a ha8 HM6.out.regs _) rfl rfl (by simpa using HM6.out.regs)).set 1 (.int .i64 ((m : Int) + 1)) (thArr_set1 _ A3 c3 _) rfl rfl (by simpa using HM6.out.regs))
      have HR7 := Lib.hid ((HR6.out.far (p := ⟨w3.heap.size, 2 + a, none⟩) (by show _ ≠ w3.heap.size; omega) (.int .i64 (wrap64 (t.regs.getD b' 0 - t.regs.getD c' 0)))).far (p := ⟨w3.heap.size, 1, none⟩) (by show _ ≠ w3.heap.size; omega) (.int .i64 ((m : Int) + 1)))
      have HB7 := Lib.hid (((HB5.out.trans (HB6.out.mono (Nat.le_of_lt HM5.out.size))).setCell (p := ⟨w3.heap.size, 2 + a, none⟩) hz3 (.int .i64 (wrap64 (t.regs.getD b' 0 - t.regs.getD c' 0)))).setCell (p := ⟨w3.heap.size, 1, none⟩) hz3 (.int .i64 ((m : Int) + 1)))
      have HE := Lib.hid (stepI_of (i := ⟨3, a, b', c', inn⟩) (t := t) (ans := ans) (rs := t.regs.set a (wrap64 (t.regs.getD b' 0 - t.regs.getD c' 0))) (n := 0) rfl rfl HPC.out)
      go_wp2_with fail
      refine (moves_any _ W2.heap.size w3.heap.size _ A3 c3 ⟨3, a, b', c', inn⟩ HM7.out (by simp) (by simp; omega) (by simpa using hst)).mono ?_
      rintro e w8 h8
      have hE := HE.out
      have hE2 := HSTEP.out
      rw [hE] at hE2
      generalize moveT ⟨3, a, b', c', inn⟩ _ = o at h8 hE2
      cases o with
      | none =>
        obtain ⟨rfl, hb8⟩ := h8
        have HR8 := Lib.hid (HR7.out.below hb8 (by have := HW2S.out; omega))
        have HB8 := Lib.hid (HB7.out.trans hb8)
        have HST := Lib.hid hE2
        have HSZD := Lib.hid (show (Tryd.prog.info? 56).map (·.size) = some (thArr doneT none 0).size from Tryd.infoTh)
        clear hb8 hE hE2 g0 g1 g2 g3 g4 q1 f1 qa fa
        go_wp2_with (refine wpList_store_row rfl 56 _ _ rfl (w.heap.size + 2) (thArr doneT none 0) rfl rfl 56 _ HR8.out HSZD.out rfl (thArr_one doneT none 0) ?_)
        refine bodyPost_ret (v := .tuple #[.agg (thArr doneT none 0), .int .i64 0, .bool true]) (results_cell3 Tryd.results53 _ _ (w.heap.size + 2) 56 (thArr doneT none 0) (0, 0) _ rfl (HR8.out.setRow _) Tryd.underlying56 rfl HSZD.out) rfl ⟨none, 0, ?_, ?_, (fun _ h => by cases h), ?_⟩
        · rw [HST.out]; rfl
        · rw [HST.out]; exact ⟨rfl, Row.nil, Nat.le_refl _, Nat.zero_le _⟩
        · exact HB2.out.trans (below_setRow (HB8.out.mono (by have := HW2S.out; omega)) (by have := HW2S.out; omega) (Nat.le_trans (by have := HW2S.out; omega) HB8.out.size) _)
      | some u =>
        obtain ⟨rfl, ⟨B8, d8, hM8⟩, hb8⟩ := h8
        have HR8 := Lib.hid (HR7.out.below hb8 (by have := HW2S.out; omega))
        have HB8 := Lib.hid (HB7.out.trans hb8)
        have HM8 := Lib.hid hM8
        have HST := Lib.hid hE2
        have HSZ8 := Lib.hid (show (Tryd.prog.info? 56).map (·.size) = some (thArr u B8 d8).size by rw [thArr_size B8 d8 hM8.regs]; exact Tryd.infoTh)
        clear hb8 hE hE2 hM8 g0 g1 g2 g3 g4 q1 f1 qa fa
        go_wp2_with (first | (refine wpList_load_rowW (by rfl) 56 _ rfl w3.heap.size rfl 56 (thArr u B8 d8) (0, 0) _ HM8.out.blk Tryd.underlying56 rfl HSZ8.out ?_) | (refine wpList_store_row rfl 56 _ _ rfl (w.heap.size + 2) (thArr u B8 d8) rfl rfl 56 _ HR8.out HSZ8.out (by rw [thArr_size B8 d8 HM8.out.regs]; rfl) (thArr_one u B8 d8) ?_))
        refine bodyPost_ret (results_cell3 Tryd.results53 _ _ (w.heap.size + 2) 56 (thArr u B8 d8) (0, 0) _ rfl (HR8.out.setRow _) Tryd.underlying56 rfl HSZ8.out) rfl ⟨B8, d8, ?_, ?_, (fun k hk => Nat.le_trans (by have := HW2S.out; omega) (HM8.out.own.lt k hk).1), ?_⟩
        · rw [HST.out]; rfl
        · rw [HST.out]
          have hk := HM8.out.ok
          exact ⟨hk.regs, by rw [setRow_size]; exact (own_setRow HM8.out.own (g := w.heap.size + 2) (by have := HW2S.out; omega) _).rowN.more (by rw [setRow_size]; exact Nat.le_refl _), hk.len, hk.cap⟩
        · exact HB2.out.trans (below_setRow (HB8.out.mono (by have := HW2S.out; omega)) (by have := HW2S.out; omega) (Nat.le_trans (by have := HW2S.out; omega) HB8.out.size) _)
    · refine (reckons_4 W5).mono ?_
      rintro e w5 ⟨rfl, rfl⟩
      have nf := neqf_4
      go_wp2_with fail
      refine region_schE (fun w' => Below W5.heap.size W5 w') [([0, 1, 2, 3, 4, 5, 6, 7, 8, 9, 10, 11, 12, 13, 15], 14)] [16] 17 (by kernel_rfl) (by kernel_rfl) (by kernel_rfl) (fun _ _ d _ _ h => by cases d <;> exact h) (Below.refl _ _).drew ?_
      (try simp only [Act.put, List.setIfInBounds_toArray, List.set_cons_zero, List.set_cons_succ]); refine schE_seg ?_; simp only [pickOps, List.getElem?_toArray, List.getElem?_cons_zero, List.getElem?_cons_succ]; (repeat (first | go_big_quiet_skip | (go_big_quiet_want; first | (go_big_quiet_op; first | go_big_quiet_on | ((first | with_reducible refine ⟨_, fun _ _ => rfl, ?_⟩); go_big_quiet_on)) | (simp (contextual := true) [go_sem, G1, G2, G3, R1, R2]; with_reducible refine ⟨_, fun _ _ => rfl, ?_⟩; go_big_quiet_on)))); refine wpQuiet_nil ?_
      go_wp2_with fail
      refine (pair_mul (t.regs.getD b' 0) (t.regs.getD c' 0) _).mono ?_
      rintro e w6 ⟨rfl, hb6⟩
      have HB6 := Lib.hid ((Below.refl W5.heap.size W5).drew.trans hb6)
      have HM6 := Lib.hid (HM5.out.step HB6.out)
      have HI6 := Lib.hid (HI5.out.below HB6.out HI5.out.lt)
      have HR6 := Lib.hid (HR5.out.below HB6.out HR5.out.lt)
      clear hb6 nf
      go_wp2_with fail
      refine ⟨fun w' => Below W5.heap.size W5 w', HB6.out, fun _ h => h, ?_⟩
      (try simp only [Act.put, List.setIfInBounds_toArray, List.set_cons_zero, List.set_cons_succ]); refine schE_last ?_; simp only [pickOps, List.getElem?_toArray, List.getElem?_cons_zero, List.getElem?_cons_succ]; (repeat (first | go_big_quiet_skip | (go_big_quiet_want; first | (go_big_quiet_op; first | go_big_quiet_on | ((first | with_reducible refine ⟨_, fun _ _ => rfl, ?_⟩); go_big_quiet_on)) | (simp (contextual := true) [go_sem, HB6]; with_reducible refine ⟨_, fun _ _ => rfl, ?_⟩; go_big_quiet_on)))); refine wpQuiet_nil ?_
      have q1 := (HM6.out.blk.cell 1).trans (thArr_1 A3 c3)
      rw [HPC.out] at q1
      have f1 := HM6.out.blk.frozen 1
      have qa := (HM6.out.blk.cell (2 + a)).trans (thArr_reg A3 c3 HM6.out.regs a ha8)
      have fa := HM6.out.blk.frozen (2 + a)
      have g0 := G0 w6 HB6.out
      have g1 := G1 w6 HB6.out
      have g2 := G2 w6 HB6.out
      have g3 := G3 w6 HB6.out
      have g4 := G4 w6 HB6.out
      clear G0 G1 G2 G3 G4 R0 R1 R2 j0
      have HM7 := Lib.hid ((HM6.out.set (2 + a) (.int .i64 (wrap64 (t.regs.getD b' 0 * t.regs.getD c' 0))) (thArr_setreg t A3 c3 a ha8 HM6.out.regs _) rfl rfl (by simpa using HM6.out.regs)).set 1 (.int .i64 ((m : Int) + 1)) (thArr_set1 _ A3 c3 _) rfl rfl (by simpa using HM6.out.regs))
      have HR7 := Lib.hid ((HR6.out.far (p := ⟨w3.heap.size, 2 + a, none⟩) (by show _ ≠ w3.heap.size; omega) (.int .i64 (wrap64 (t.regs.getD b' 0 * t.regs.getD c' 0)))).far (p := ⟨w3.heap.size, 1, none⟩) (by show _ ≠ w3.heap.size; omega) (.int .i64 ((m : Int) + 1)))
      have HB7 := Lib.hid (((HB5.out.trans (HB6.out.mono (Nat.le_of_lt HM5.out.size))).setCell (p := ⟨w3.heap.size, 2 + a, none⟩) hz3 (.int .i64 (wrap64 (t.regs.getD b' 0 * t.regs.getD c' 0)))).setCell (p := ⟨w3.heap.size, 1, none⟩) hz3 (.int .i64 ((m : Int) + 1)))
      have HE := Lib.hid (stepI_of (i := ⟨4, a, b', c', inn⟩) (t := t) (ans := ans) (rs := t.regs.set a (wrap64 (t.regs.getD b' 0 * t.regs.getD c' 0))) (n := 0) rfl rfl HPC.out)
      go_wp2_with fail
      refine (moves_any _ W2.heap.size w3.heap.size _ A3 c3 ⟨4, a, b', c', inn⟩ HM7.out (by simp) (by simp; omega) (by simpa using hst)).mono ?_
      rintro e w8 h8
      have hE := HE.out
      have hE2 := HSTEP.out
      rw [hE] at hE2
      generalize moveT ⟨4, a, b', c', inn⟩ _ = o at h8 hE2
      cases o with
      | none =>
        obtain ⟨rfl, hb8⟩ := h8
        have HR8 := Lib.hid (HR7.out.below hb8 (by have := HW2S.out; omega))
        have HB8 := Lib.hid (HB7.out.trans hb8)
        have HST := Lib.hid hE2
        have HSZD := Lib.hid (show (Tryd.prog.info? 56).map (·.size) = some (thArr doneT none 0).size from Tryd.infoTh)
        clear hb8 hE hE2 g0 g1 g2 g3 g4 q1 f1 qa fa
        go_wp2_with (refine wpList_store_row rfl 56 _ _ rfl (w.heap.size + 2) (thArr doneT none 0) rfl rfl 56 _ HR8.out HSZD.out rfl (thArr_one doneT none 0) ?_)
        refine bodyPost_ret (v := .tuple #[.agg (thArr doneT none 0), .int .i64 0, .bool true]) (results_cell3 Tryd.results53 _ _ (w.heap.size + 2) 56 (thArr doneT none 0) (0, 0) _ rfl (HR8.out.setRow _) Tryd.underlying56 rfl HSZD.out) rfl ⟨none, 0, ?_, ?_, (fun _ h => by cases h), ?_⟩
        · rw [HST.out]; rfl
        · rw [HST.out]; exact ⟨rfl, Row.nil, Nat.le_refl _, Nat.zero_le _⟩
        · exact HB2.out.trans (below_setRow (HB8.out.mono (by have := HW2S.out; omega)) (by have := HW2S.out; omega) (Nat.le_trans (by have := HW2S.out; omega) HB8.out.size) _)
      | some u =>
        obtain ⟨rfl, ⟨B8, d8, hM8⟩, hb8⟩ := h8
        have HR8 := Lib.hid (HR7.out.below hb8 (by have := HW2S.out; omega))
        have HB8 := Lib.hid (HB7.out.trans hb8)
        have HM8 := Lib.hid hM8
        have HST := Lib.hid hE2
        have HSZ8 := Lib.hid (show (Tryd.prog.info? 56).map (·.size) = some (thArr u B8 d8).size by rw [thArr_size B8 d8 hM8.regs]; exact Tryd.infoTh)
        clear hb8 hE hE2 hM8 g0 g1 g2 g3 g4 q1 f1 qa fa
        go_wp2_with (first | (refine wpList_load_rowW (by rfl) 56 _ rfl w3.heap.size rfl 56 (thArr u B8 d8) (0, 0) _ HM8.out.blk Tryd.underlying56 rfl HSZ8.out ?_) | (refine wpList_store_row rfl 56 _ _ rfl (w.heap.size + 2) (thArr u B8 d8) rfl rfl 56 _ HR8.out HSZ8.out (by rw [thArr_size B8 d8 HM8.out.regs]; rfl) (thArr_one u B8 d8) ?_))
        refine bodyPost_ret (results_cell3 Tryd.results53 _ _ (w.heap.size + 2) 56 (thArr u B8 d8) (0, 0) _ rfl (HR8.out.setRow _) Tryd.underlying56 rfl HSZ8.out) rfl ⟨B8, d8, ?_, ?_, (fun k hk => Nat.le_trans (by have := HW2S.out; omega) (HM8.out.own.lt k hk).1), ?_⟩
        · rw [HST.out]; rfl
        · rw [HST.out]
          have hk := HM8.out.ok
          exact ⟨hk.regs, by rw [setRow_size]; exact (own_setRow HM8.out.own (g := w.heap.size + 2) (by have := HW2S.out; omega) _).rowN.more (by rw [setRow_size]; exact Nat.le_refl _), hk.len, hk.cap⟩
        · exact HB2.out.trans (below_setRow (HB8.out.mono (by have := HW2S.out; omega)) (by have := HW2S.out; omega) (Nat.le_trans (by have := HW2S.out; omega) HB8.out.size) _)
    · refine (reckons_5 W5).mono ?_
      rintro e w5 ⟨rfl, rfl⟩
      have nf := neqf_5
      go_wp2_with fail
      refine region_schE (fun w' => Below W5.heap.size W5 w') [([0, 1, 2, 3, 4, 5, 6, 7, 8, 9, 10, 11, 12, 13, 15], 14)] [16] 17 (by kernel_rfl) (by kernel_rfl) (by kernel_rfl) (fun _ _ d _ _ h => by cases d <;> exact h) (Below.refl _ _).drew ?_
      (try simp only [Act.put, List.setIfInBounds_toArray, List.set_cons_zero, List.set_cons_succ]); refine schE_seg ?_; simp only [pickOps, List.getElem?_toArray, List.getElem?_cons_zero, List.getElem?_cons_succ]; (repeat (first | go_big_quiet_skip | (go_big_quiet_want; first | (go_big_quiet_op; first | go_big_quiet_on | ((first | with_reducible refine ⟨_, fun _ _ => rfl, ?_⟩); go_big_quiet_on)) | (simp (contextual := true) [go_sem, G1, G2, G3, R1, R2]; with_reducible refine ⟨_, fun _ _ => rfl, ?_⟩; go_big_quiet_on)))); refine wpQuiet_nil ?_
      go_wp2_with fail
      refine (pair_less (t.regs.getD b' 0) (t.regs.getD c' 0) _).mono ?_
      rintro e w6 ⟨rfl, hb6⟩
      have HB6 := Lib.hid ((Below.refl W5.heap.size W5).drew.trans hb6)
      have HM6 := Lib.hid (HM5.out.step HB6.out)
      have HI6 := Lib.hid (HI5.out.below HB6.out HI5.out.lt)
      have HR6 := Lib.hid (HR5.out.below HB6.out HR5.out.lt)
      clear hb6 nf
      go_wp2_with fail
      refine ⟨fun w' => Below W5.heap.size W5 w', HB6.out, fun _ h => h, ?_⟩
      (try simp only [Act.put, List.setIfInBounds_toArray, List.set_cons_zero, List.set_cons_succ]); refine schE_last ?_; simp only [pickOps, List.getElem?_toArray, List.getElem?_cons_zero, List.getElem?_cons_succ]; (repeat (first | go_big_quiet_skip | (go_big_quiet_want; first | (go_big_quiet_op; first | go_big_quiet_on | ((first | with_reducible refine ⟨_, fun _ _ => rfl, ?_⟩); go_big_quiet_on)) | (simp (contextual := true) [go_sem, HB6]; with_reducible refine ⟨_, fun _ _ => rfl, ?_⟩; go_big_quiet_on)))); refine wpQuiet_nil ?_
      have q1 := (HM6.out.blk.cell 1).trans (thArr_1 A3 c3)
      rw [HPC.out] at q1
      have f1 := HM6.out.blk.frozen 1
      have qa := (HM6.out.blk.cell (2 + a)).trans (thArr_reg A3 c3 HM6.out.regs a ha8)
      have fa := HM6.out.blk.frozen (2 + a)
      have g0 := G0 w6 HB6.out
      have g1 := G1 w6 HB6.out
      have g2 := G2 w6 HB6.out
      have g3 := G3 w6 HB6.out
      have g4 := G4 w6 HB6.out
      clear G0 G1 G2 G3 G4 R0 R1 R2 j0
      have HM7 := Lib.hid ((HM6.out.set (2 + a) (.int .i64 (lessV (t.regs.getD b' 0) (t.regs.getD c' 0))) (thArr_setreg t A3 c3 a ha8 HM6.out.regs _) rfl rfl (by simpa using HM6.out.regs)).set 1 (.int .i64 ((m : Int) + 1)) (thArr_set1 _ A3 c3 _) rfl rfl (by simpa using HM6.out.regs))
      have HR7 := Lib.hid ((HR6.out.far (p := ⟨w3.heap.size, 2 + a, none⟩) (by show _ ≠ w3.heap.size; omega) (.int .i64 (lessV (t.regs.getD b' 0) (t.regs.getD c' 0)))).far (p := ⟨w3.heap.size, 1, none⟩) (by show _ ≠ w3.heap.size; omega) (.int .i64 ((m : Int) + 1)))
      have HB7 := Lib.hid (((HB5.out.trans (HB6.out.mono (Nat.le_of_lt HM5.out.size))).setCell (p := ⟨w3.heap.size, 2 + a, none⟩) hz3 (.int .i64 (lessV (t.regs.getD b' 0) (t.regs.getD c' 0)))).setCell (p := ⟨w3.heap.size, 1, none⟩) hz3 (.int .i64 ((m : Int) + 1)))
      have HE := Lib.hid (stepI_of (i := ⟨5, a, b', c', inn⟩) (t := t) (ans := ans) (rs := t.regs.set a (lessV (t.regs.getD b' 0) (t.regs.getD c' 0))) (n := 0) rfl rfl HPC.out)
      go_wp2_with fail
      refine (moves_any _ W2.heap.size w3.heap.size _ A3 c3 ⟨5, a, b', c', inn⟩ HM7.out (by simp) (by simp; omega) (by simpa using hst)).mono ?_
      rintro e w8 h8
      have hE := HE.out
      have hE2 := HSTEP.out
      rw [hE] at hE2
      generalize moveT ⟨5, a, b', c', inn⟩ _ = o at h8 hE2
      cases o with
      | none =>
        obtain ⟨rfl, hb8⟩ := h8
        have HR8 := Lib.hid (HR7.out.below hb8 (by have := HW2S.out; omega))
        have HB8 := Lib.hid (HB7.out.trans hb8)
        have HST := Lib.hid hE2
        have HSZD := Lib.hid (show (Tryd.prog.info? 56).map (·.size) = some (thArr doneT none 0).size from Tryd.infoTh)
        clear hb8 hE hE2 g0 g1 g2 g3 g4 q1 f1 qa fa
        go_wp2_with (refine wpList_store_row rfl 56 _ _ rfl (w.heap.size + 2) (thArr doneT none 0) rfl rfl 56 _ HR8.out HSZD.out rfl (thArr_one doneT none 0) ?_)
        refine bodyPost_ret (v := .tuple #[.agg (thArr doneT none 0), .int .i64 0, .bool true]) (results_cell3 Tryd.results53 _ _ (w.heap.size + 2) 56 (thArr doneT none 0) (0, 0) _ rfl (HR8.out.setRow _) Tryd.underlying56 rfl HSZD.out) rfl ⟨none, 0, ?_, ?_, (fun _ h => by cases h), ?_⟩
        · rw [HST.out]; rfl
        · rw [HST.out]; exact ⟨rfl, Row.nil, Nat.le_refl _, Nat.zero_le _⟩
        · exact HB2.out.trans (below_setRow (HB8.out.mono (by have := HW2S.out; omega)) (by have := HW2S.out; omega) (Nat.le_trans (by have := HW2S.out; omega) HB8.out.size) _)
      | some u =>
        obtain ⟨rfl, ⟨B8, d8, hM8⟩, hb8⟩ := h8
        have HR8 := Lib.hid (HR7.out.below hb8 (by have := HW2S.out; omega))
        have HB8 := Lib.hid (HB7.out.trans hb8)
        have HM8 := Lib.hid hM8
        have HST := Lib.hid hE2
        have HSZ8 := Lib.hid (show (Tryd.prog.info? 56).map (·.size) = some (thArr u B8 d8).size by rw [thArr_size B8 d8 hM8.regs]; exact Tryd.infoTh)
        clear hb8 hE hE2 hM8 g0 g1 g2 g3 g4 q1 f1 qa fa
        go_wp2_with (first | (refine wpList_load_rowW (by rfl) 56 _ rfl w3.heap.size rfl 56 (thArr u B8 d8) (0, 0) _ HM8.out.blk Tryd.underlying56 rfl HSZ8.out ?_) | (refine wpList_store_row rfl 56 _ _ rfl (w.heap.size + 2) (thArr u B8 d8) rfl rfl 56 _ HR8.out HSZ8.out (by rw [thArr_size B8 d8 HM8.out.regs]; rfl) (thArr_one u B8 d8) ?_))
        refine bodyPost_ret (results_cell3 Tryd.results53 _ _ (w.heap.size + 2) 56 (thArr u B8 d8) (0, 0) _ rfl (HR8.out.setRow _) Tryd.underlying56 rfl HSZ8.out) rfl ⟨B8, d8, ?_, ?_, (fun k hk => Nat.le_trans (by have := HW2S.out; omega) (HM8.out.own.lt k hk).1), ?_⟩
        · rw [HST.out]; rfl
        · rw [HST.out]
          have hk := HM8.out.ok
          exact ⟨hk.regs, by rw [setRow_size]; exact (own_setRow HM8.out.own (g := w.heap.size + 2) (by have := HW2S.out; omega) _).rowN.more (by rw [setRow_size]; exact Nat.le_refl _), hk.len, hk.cap⟩
        · exact HB2.out.trans (below_setRow (HB8.out.mono (by have := HW2S.out; omega)) (by have := HW2S.out; omega) (Nat.le_trans (by have := HW2S.out; omega) HB8.out.size) _)
  · have o2 : op ≠ 2 := fun h => hkind (.inl h)
    have o3 : op ≠ 3 := fun h => hkind (.inr (.inl h))
    have o4 : op ≠ 4 := fun h => hkind (.inr (.inr (.inl h)))
    have o5 : op ≠ 5 := fun h => hkind (.inr (.inr (.inr h)))
    clear hkind
    have nf := neqf_no
    refine (reckons_no op o2 o3 o4 o5 W5).mono ?_
    rintro e w5 ⟨rfl, rfl⟩
    by_cases o1 : op = 1
    · subst o1
      have HB6 := Lib.hid (Below.refl W5.heap.size W5)
      have HM6 := HM5
      have HI6 := HI5
      have HR6 := HR5
      have q1 := (HM6.out.blk.cell 1).trans (thArr_1 A3 c3)
      rw [HPC.out] at q1
      have f1 := HM6.out.blk.frozen 1
      have qa := (HM6.out.blk.cell (2 + a)).trans (thArr_reg A3 c3 HM6.out.regs a ha8)
      have fa := HM6.out.blk.frozen (2 + a)
      have g0 := G0 W5 HB6.out
      have g1 := G1 W5 HB6.out
      have g2 := G2 W5 HB6.out
      have g3 := G3 W5 HB6.out
      have g4 := G4 W5 HB6.out
      clear G0 G1 G2 G3 G4 R0 R1 R2 j0
      have HM7 := Lib.hid ((HM6.out.set (2 + a) (.int .i64 (inn)) (thArr_setreg t A3 c3 a ha8 HM6.out.regs _) rfl rfl (by simpa using HM6.out.regs)).set 1 (.int .i64 ((m : Int) + 1)) (thArr_set1 _ A3 c3 _) rfl rfl (by simpa using HM6.out.regs))
      have HR7 := Lib.hid ((HR6.out.far (p := ⟨w3.heap.size, 2 + a, none⟩) (by show _ ≠ w3.heap.size; omega) (.int .i64 (inn))).far (p := ⟨w3.heap.size, 1, none⟩) (by show _ ≠ w3.heap.size; omega) (.int .i64 ((m : Int) + 1)))
      have HB7 := Lib.hid (((HB5.out.trans (HB6.out.mono (Nat.le_of_lt HM5.out.size))).setCell (p := ⟨w3.heap.size, 2 + a, none⟩) hz3 (.int .i64 (inn))).setCell (p := ⟨w3.heap.size, 1, none⟩) hz3 (.int .i64 ((m : Int) + 1)))
      have HE := Lib.hid (stepI_of (i := ⟨1, a, b', c', inn⟩) (t := t) (ans := ans) (rs := t.regs.set a inn) (n := 0) rfl rfl HPC.out)
      clear o2 o3 o4 o5
      go_wp2_with fail
      clear nf
      refine (moves_any _ W2.heap.size w3.heap.size _ A3 c3 ⟨1, a, b', c', inn⟩ HM7.out (by simp) (by simp; omega) (by simpa using hst)).mono ?_
      rintro e w8 h8
      have hE := HE.out
      have hE2 := HSTEP.out
      rw [hE] at hE2
      generalize moveT ⟨1, a, b', c', inn⟩ _ = o at h8 hE2
      cases o with
      | none =>
        obtain ⟨rfl, hb8⟩ := h8
        have HR8 := Lib.hid (HR7.out.below hb8 (by have := HW2S.out; omega))
        have HB8 := Lib.hid (HB7.out.trans hb8)
        have HST := Lib.hid hE2
        have HSZD := Lib.hid (show (Tryd.prog.info? 56).map (·.size) = some (thArr doneT none 0).size from Tryd.infoTh)
        clear hb8 hE hE2 g0 g1 g2 g3 g4 q1 f1 qa fa
        go_wp2_with (refine wpList_store_row rfl 56 _ _ rfl (w.heap.size + 2) (thArr doneT none 0) rfl rfl 56 _ HR8.out HSZD.out rfl (thArr_one doneT none 0) ?_)
        refine bodyPost_ret (v := .tuple #[.agg (thArr doneT none 0), .int .i64 0, .bool true]) (results_cell3 Tryd.results53 _ _ (w.heap.size + 2) 56 (thArr doneT none 0) (0, 0) _ rfl (HR8.out.setRow _) Tryd.underlying56 rfl HSZD.out) rfl ⟨none, 0, ?_, ?_, (fun _ h => by cases h), ?_⟩
        · rw [HST.out]; rfl
        · rw [HST.out]; exact ⟨rfl, Row.nil, Nat.le_refl _, Nat.zero_le _⟩
        · exact HB2.out.trans (below_setRow (HB8.out.mono (by have := HW2S.out; omega)) (by have := HW2S.out; omega) (Nat.le_trans (by have := HW2S.out; omega) HB8.out.size) _)
      | some u =>
        obtain ⟨rfl, ⟨B8, d8, hM8⟩, hb8⟩ := h8
        have HR8 := Lib.hid (HR7.out.below hb8 (by have := HW2S.out; omega))
        have HB8 := Lib.hid (HB7.out.trans hb8)
        have HM8 := Lib.hid hM8
        have HST := Lib.hid hE2
        have HSZ8 := Lib.hid (show (Tryd.prog.info? 56).map (·.size) = some (thArr u B8 d8).size by rw [thArr_size B8 d8 hM8.regs]; exact Tryd.infoTh)
        clear hb8 hE hE2 hM8 g0 g1 g2 g3 g4 q1 f1 qa fa
        go_wp2_with (first | (refine wpList_load_rowW (by rfl) 56 _ rfl w3.heap.size rfl 56 (thArr u B8 d8) (0, 0) _ HM8.out.blk Tryd.underlying56 rfl HSZ8.out ?_) | (refine wpList_store_row rfl 56 _ _ rfl (w.heap.size + 2) (thArr u B8 d8) rfl rfl 56 _ HR8.out HSZ8.out (by rw [thArr_size B8 d8 HM8.out.regs]; rfl) (thArr_one u B8 d8) ?_))
        refine bodyPost_ret (results_cell3 Tryd.results53 _ _ (w.heap.size + 2) 56 (thArr u B8 d8) (0, 0) _ rfl (HR8.out.setRow _) Tryd.underlying56 rfl HSZ8.out) rfl ⟨B8, d8, ?_, ?_, (fun k hk => Nat.le_trans (by have := HW2S.out; omega) (HM8.out.own.lt k hk).1), ?_⟩
        · rw [HST.out]; rfl
        · rw [HST.out]
          have hk := HM8.out.ok
          exact ⟨hk.regs, by rw [setRow_size]; exact (own_setRow HM8.out.own (g := w.heap.size + 2) (by have := HW2S.out; omega) _).rowN.more (by rw [setRow_size]; exact Nat.le_refl _), hk.len, hk.cap⟩
        · exact HB2.out.trans (below_setRow (HB8.out.mono (by have := HW2S.out; omega)) (by have := HW2S.out; omega) (Nat.le_trans (by have := HW2S.out; omega) HB8.out.size) _)
    by_cases o15 : op = 15
    · subst o15
      have HB6 := Lib.hid (Below.refl W5.heap.size W5)
      have HM6 := HM5
      have HI6 := HI5
      have HR6 := HR5
      have r0 := R0 W5 HB6.out
      have q1 := (HM6.out.blk.cell 1).trans (thArr_1 A3 c3)
      rw [HPC.out] at q1
      have f1 := HM6.out.blk.frozen 1
      have qa := (HM6.out.blk.cell (2 + a)).trans (thArr_reg A3 c3 HM6.out.regs a ha8)
      have fa := HM6.out.blk.frozen (2 + a)
      have g0 := G0 W5 HB6.out
      have g1 := G1 W5 HB6.out
      have g2 := G2 W5 HB6.out
      have g3 := G3 W5 HB6.out
      have g4 := G4 W5 HB6.out
      clear G0 G1 G2 G3 G4 R0 R1 R2 j0
      have HM7 := Lib.hid (HM6.out.set 1 (.int .i64 ((m : Int) + 1)) (thArr_set1 _ A3 c3 _) rfl rfl HM6.out.regs)
      have HR7 := Lib.hid (HR6.out.far (p := ⟨w3.heap.size, 1, none⟩) (by show _ ≠ w3.heap.size; omega) (.int .i64 ((m : Int) + 1)))
      have HB7 := Lib.hid ((HB5.out.trans (HB6.out.mono (Nat.le_of_lt HM5.out.size))).setCell (p := ⟨w3.heap.size, 1, none⟩) hz3 (.int .i64 ((m : Int) + 1)))
      have HE := Lib.hid (stepI_of (i := ⟨15, a, b', c', inn⟩) (t := t) (ans := ans) (rs := t.regs) (n := t.regs.getD a 0) rfl rfl HPC.out)
      clear o1 o2 o3 o4 o5
      go_wp2_with fail
      clear nf r0
      refine (moves_any _ W2.heap.size w3.heap.size _ A3 c3 ⟨15, a, b', c', inn⟩ HM7.out (by simp) (by simp; omega) (by simpa using hst)).mono ?_
      rintro e w8 h8
      have hE := HE.out
      have hE2 := HSTEP.out
      rw [hE] at hE2
      generalize moveT ⟨15, a, b', c', inn⟩ _ = o at h8 hE2
      cases o with
      | none =>
        obtain ⟨rfl, hb8⟩ := h8
        have HR8 := Lib.hid (HR7.out.below hb8 (by have := HW2S.out; omega))
        have HB8 := Lib.hid (HB7.out.trans hb8)
        have HST := Lib.hid hE2
        have HSZD := Lib.hid (show (Tryd.prog.info? 56).map (·.size) = some (thArr doneT none 0).size from Tryd.infoTh)
        clear hb8 hE hE2 g0 g1 g2 g3 g4 q1 f1 qa fa
        go_wp2_with (refine wpList_store_row rfl 56 _ _ rfl (w.heap.size + 2) (thArr doneT none 0) rfl rfl 56 _ HR8.out HSZD.out rfl (thArr_one doneT none 0) ?_)
        refine bodyPost_ret (v := .tuple #[.agg (thArr doneT none 0), .int .i64 0, .bool true]) (results_cell3 Tryd.results53 _ _ (w.heap.size + 2) 56 (thArr doneT none 0) (0, 0) _ rfl (HR8.out.setRow _) Tryd.underlying56 rfl HSZD.out) rfl ⟨none, 0, ?_, ?_, (fun _ h => by cases h), ?_⟩
        · rw [HST.out]; rfl
        · rw [HST.out]; exact ⟨rfl, Row.nil, Nat.le_refl _, Nat.zero_le _⟩
        · exact HB2.out.trans (below_setRow (HB8.out.mono (by have := HW2S.out; omega)) (by have := HW2S.out; omega) (Nat.le_trans (by have := HW2S.out; omega) HB8.out.size) _)
      | some u =>
        obtain ⟨rfl, ⟨B8, d8, hM8⟩, hb8⟩ := h8
        have HR8 := Lib.hid (HR7.out.below hb8 (by have := HW2S.out; omega))
        have HB8 := Lib.hid (HB7.out.trans hb8)
        have HM8 := Lib.hid hM8
        have HST := Lib.hid hE2
        have HSZ8 := Lib.hid (show (Tryd.prog.info? 56).map (·.size) = some (thArr u B8 d8).size by rw [thArr_size B8 d8 hM8.regs]; exact Tryd.infoTh)
        clear hb8 hE hE2 hM8 g0 g1 g2 g3 g4 q1 f1 qa fa
        go_wp2_with (first | (refine wpList_load_rowW (by rfl) 56 _ rfl w3.heap.size rfl 56 (thArr u B8 d8) (0, 0) _ HM8.out.blk Tryd.underlying56 rfl HSZ8.out ?_) | (refine wpList_store_row rfl 56 _ _ rfl (w.heap.size + 2) (thArr u B8 d8) rfl rfl 56 _ HR8.out HSZ8.out (by rw [thArr_size B8 d8 HM8.out.regs]; rfl) (thArr_one u B8 d8) ?_))
        refine bodyPost_ret (results_cell3 Tryd.results53 _ _ (w.heap.size + 2) 56 (thArr u B8 d8) (0, 0) _ rfl (HR8.out.setRow _) Tryd.underlying56 rfl HSZ8.out) rfl ⟨B8, d8, ?_, ?_, (fun k hk => Nat.le_trans (by have := HW2S.out; omega) (HM8.out.own.lt k hk).1), ?_⟩
        · rw [HST.out]; rfl
        · rw [HST.out]
          have hk := HM8.out.ok
          exact ⟨hk.regs, by rw [setRow_size]; exact (own_setRow HM8.out.own (g := w.heap.size + 2) (by have := HW2S.out; omega) _).rowN.more (by rw [setRow_size]; exact Nat.le_refl _), hk.len, hk.cap⟩
        · exact HB2.out.trans (below_setRow (HB8.out.mono (by have := HW2S.out; omega)) (by have := HW2S.out; omega) (Nat.le_trans (by have := HW2S.out; omega) HB8.out.size) _)
    · have d1 : (op == 1) = false := by simpa using o1
      have d15 : (op == 15) = false := by simpa using o15
      have hra : regs1 ⟨op, a, b', c', inn⟩ t ans = if opAsks op = true then t.regs.set a ans else t.regs := by
        unfold regs1 reckonV
        simp only
        rw [if_neg o2, if_neg o3, if_neg o4, if_neg o5]
        simp only
        rw [if_neg o1]
        rfl
      have hta : tells1 ⟨op, a, b', c', inn⟩ t ans = if opAsks op = true then ans else 0 := by
        unfold tells1
        simp only
        rw [if_neg o15]
      have HRA := Lib.hid hra
      have HTL := Lib.hid hta
      clear o1 o2 o3 o4 o5 o15 hra hta
      go_wp2_with fail
      refine (isaAsks_any op W5 ((HTA.out.step HB2.out).step HB5.out)).mono ?_
      rintro e w6 ⟨rfl, hb6⟩
      have HB6 := Lib.hid hb6
      have HM6 := Lib.hid (HM5.out.step HB6.out)
      have HI6 := Lib.hid (HI5.out.below HB6.out HI5.out.lt)
      have HR6 := Lib.hid (HR5.out.below HB6.out HR5.out.lt)
      clear hb6 nf
      have q1 := (HM6.out.blk.cell 1).trans (thArr_1 A3 c3)
      rw [HPC.out] at q1
      have f1 := HM6.out.blk.frozen 1
      have qa := (HM6.out.blk.cell (2 + a)).trans (thArr_reg A3 c3 HM6.out.regs a ha8)
      have fa := HM6.out.blk.frozen (2 + a)
      have g0 := G0 w6 HB6.out
      have g1 := G1 w6 HB6.out
      have g2 := G2 w6 HB6.out
      have g3 := G3 w6 HB6.out
      have g4 := G4 w6 HB6.out
      clear G0 G1 G2 G3 G4 R0 R1 R2 j0
      cases hask : opAsks op with
      | true =>
        have e1 := HRA.out
        have e2 := HTL.out
        rw [hask, if_pos rfl] at e1 e2
        have HE := Lib.hid (stepI_of (i := ⟨op, a, b', c', inn⟩) (t := t) (ans := ans) (rs := t.regs.set a ans) (n := ans) e1 e2 HPC.out)
        clear e1 e2 hask
        have HM7 := Lib.hid ((HM6.out.set (2 + a) (.int .i64 (ans)) (thArr_setreg t A3 c3 a ha8 HM6.out.regs _) rfl rfl (by simpa using HM6.out.regs)).set 1 (.int .i64 ((m : Int) + 1)) (thArr_set1 _ A3 c3 _) rfl rfl (by simpa using HM6.out.regs))
        have HR7 := Lib.hid ((HR6.out.far (p := ⟨w3.heap.size, 2 + a, none⟩) (by show _ ≠ w3.heap.size; omega) (.int .i64 (ans))).far (p := ⟨w3.heap.size, 1, none⟩) (by show _ ≠ w3.heap.size; omega) (.int .i64 ((m : Int) + 1)))
        have HB7 := Lib.hid (((HB5.out.trans (HB6.out.mono (Nat.le_of_lt HM5.out.size))).setCell (p := ⟨w3.heap.size, 2 + a, none⟩) hz3 (.int .i64 (ans))).setCell (p := ⟨w3.heap.size, 1, none⟩) hz3 (.int .i64 ((m : Int) + 1)))
        go_wp2_with fail
        refine (moves_any _ W2.heap.size w3.heap.size _ A3 c3 ⟨op, a, b', c', inn⟩ HM7.out (by simp) (by simp; omega) (by simpa using hst)).mono ?_
        rintro e w8 h8
        have hE := HE.out
        have hE2 := HSTEP.out
        rw [hE] at hE2
        generalize moveT ⟨op, a, b', c', inn⟩ _ = o at h8 hE2
        cases o with
        | none =>
          obtain ⟨rfl, hb8⟩ := h8
          have HR8 := Lib.hid (HR7.out.below hb8 (by have := HW2S.out; omega))
          have HB8 := Lib.hid (HB7.out.trans hb8)
          have HST := Lib.hid hE2
          have HSZD := Lib.hid (show (Tryd.prog.info? 56).map (·.size) = some (thArr doneT none 0).size from Tryd.infoTh)
          clear hb8 hE hE2 g0 g1 g2 g3 g4 q1 f1 qa fa
          go_wp2_with (refine wpList_store_row rfl 56 _ _ rfl (w.heap.size + 2) (thArr doneT none 0) rfl rfl 56 _ HR8.out HSZD.out rfl (thArr_one doneT none 0) ?_)
          refine bodyPost_ret (v := .tuple #[.agg (thArr doneT none 0), .int .i64 0, .bool true]) (results_cell3 Tryd.results53 _ _ (w.heap.size + 2) 56 (thArr doneT none 0) (0, 0) _ rfl (HR8.out.setRow _) Tryd.underlying56 rfl HSZD.out) rfl ⟨none, 0, ?_, ?_, (fun _ h => by cases h), ?_⟩
          · rw [HST.out]; rfl
          · rw [HST.out]; exact ⟨rfl, Row.nil, Nat.le_refl _, Nat.zero_le _⟩
          · exact HB2.out.trans (below_setRow (HB8.out.mono (by have := HW2S.out; omega)) (by have := HW2S.out; omega) (Nat.le_trans (by have := HW2S.out; omega) HB8.out.size) _)
        | some u =>
          obtain ⟨rfl, ⟨B8, d8, hM8⟩, hb8⟩ := h8
          have HR8 := Lib.hid (HR7.out.below hb8 (by have := HW2S.out; omega))
          have HB8 := Lib.hid (HB7.out.trans hb8)
          have HM8 := Lib.hid hM8
          have HST := Lib.hid hE2
          have HSZ8 := Lib.hid (show (Tryd.prog.info? 56).map (·.size) = some (thArr u B8 d8).size by rw [thArr_size B8 d8 hM8.regs]; exact Tryd.infoTh)
          clear hb8 hE hE2 hM8 g0 g1 g2 g3 g4 q1 f1 qa fa
          go_wp2_with (first | (refine wpList_load_rowW (by rfl) 56 _ rfl w3.heap.size rfl 56 (thArr u B8 d8) (0, 0) _ HM8.out.blk Tryd.underlying56 rfl HSZ8.out ?_) | (refine wpList_store_row rfl 56 _ _ rfl (w.heap.size + 2) (thArr u B8 d8) rfl rfl 56 _ HR8.out HSZ8.out (by rw [thArr_size B8 d8 HM8.out.regs]; rfl) (thArr_one u B8 d8) ?_))
          refine bodyPost_ret (results_cell3 Tryd.results53 _ _ (w.heap.size + 2) 56 (thArr u B8 d8) (0, 0) _ rfl (HR8.out.setRow _) Tryd.underlying56 rfl HSZ8.out) rfl ⟨B8, d8, ?_, ?_, (fun k hk => Nat.le_trans (by have := HW2S.out; omega) (HM8.out.own.lt k hk).1), ?_⟩
          · rw [HST.out]; rfl
          · rw [HST.out]
            have hk := HM8.out.ok
            exact ⟨hk.regs, by rw [setRow_size]; exact (own_setRow HM8.out.own (g := w.heap.size + 2) (by have := HW2S.out; omega) _).rowN.more (by rw [setRow_size]; exact Nat.le_refl _), hk.len, hk.cap⟩
          · exact HB2.out.trans (below_setRow (HB8.out.mono (by have := HW2S.out; omega)) (by have := HW2S.out; omega) (Nat.le_trans (by have := HW2S.out; omega) HB8.out.size) _)
      | false =>
        have e1 := HRA.out
        have e2 := HTL.out
        rw [hask, if_neg (by decide)] at e1 e2
        have HE := Lib.hid (stepI_of (i := ⟨op, a, b', c', inn⟩) (t := t) (ans := ans) (rs := t.regs) (n := 0) e1 e2 HPC.out)
        clear e1 e2 hask
        have HM7 := Lib.hid (HM6.out.set 1 (.int .i64 ((m : Int) + 1)) (thArr_set1 _ A3 c3 _) rfl rfl HM6.out.regs)
        have HR7 := Lib.hid (HR6.out.far (p := ⟨w3.heap.size, 1, none⟩) (by show _ ≠ w3.heap.size; omega) (.int .i64 ((m : Int) + 1)))
        have HB7 := Lib.hid ((HB5.out.trans (HB6.out.mono (Nat.le_of_lt HM5.out.size))).setCell (p := ⟨w3.heap.size, 1, none⟩) hz3 (.int .i64 ((m : Int) + 1)))
        go_wp2_with fail
        refine (moves_any _ W2.heap.size w3.heap.size _ A3 c3 ⟨op, a, b', c', inn⟩ HM7.out (by simp) (by simp; omega) (by simpa using hst)).mono ?_
        rintro e w8 h8
        have hE := HE.out
        have hE2 := HSTEP.out
        rw [hE] at hE2
        generalize moveT ⟨op, a, b', c', inn⟩ _ = o at h8 hE2
        cases o with
        | none =>
          obtain ⟨rfl, hb8⟩ := h8
          have HR8 := Lib.hid (HR7.out.below hb8 (by have := HW2S.out; omega))
          have HB8 := Lib.hid (HB7.out.trans hb8)
          have HST := Lib.hid hE2
          have HSZD := Lib.hid (show (Tryd.prog.info? 56).map (·.size) = some (thArr doneT none 0).size from Tryd.infoTh)
          clear hb8 hE hE2 g0 g1 g2 g3 g4 q1 f1 qa fa
          go_wp2_with (refine wpList_store_row rfl 56 _ _ rfl (w.heap.size + 2) (thArr doneT none 0) rfl rfl 56 _ HR8.out HSZD.out rfl (thArr_one doneT none 0) ?_)
          refine bodyPost_ret (v := .tuple #[.agg (thArr doneT none 0), .int .i64 0, .bool true]) (results_cell3 Tryd.results53 _ _ (w.heap.size + 2) 56 (thArr doneT none 0) (0, 0) _ rfl (HR8.out.setRow _) Tryd.underlying56 rfl HSZD.out) rfl ⟨none, 0, ?_, ?_, (fun _ h => by cases h), ?_⟩
          · rw [HST.out]; rfl
          · rw [HST.out]; exact ⟨rfl, Row.nil, Nat.le_refl _, Nat.zero_le _⟩
          · exact HB2.out.trans (below_setRow (HB8.out.mono (by have := HW2S.out; omega)) (by have := HW2S.out; omega) (Nat.le_trans (by have := HW2S.out; omega) HB8.out.size) _)
        | some u =>
          obtain ⟨rfl, ⟨B8, d8, hM8⟩, hb8⟩ := h8
          have HR8 := Lib.hid (HR7.out.below hb8 (by have := HW2S.out; omega))
          have HB8 := Lib.hid (HB7.out.trans hb8)
          have HM8 := Lib.hid hM8
          have HST := Lib.hid hE2
          have HSZ8 := Lib.hid (show (Tryd.prog.info? 56).map (·.size) = some (thArr u B8 d8).size by rw [thArr_size B8 d8 hM8.regs]; exact Tryd.infoTh)
          clear hb8 hE hE2 hM8 g0 g1 g2 g3 g4 q1 f1 qa fa
          go_wp2_with (first | (refine wpList_load_rowW (by rfl) 56 _ rfl w3.heap.size rfl 56 (thArr u B8 d8) (0, 0) _ HM8.out.blk Tryd.underlying56 rfl HSZ8.out ?_) | (refine wpList_store_row rfl 56 _ _ rfl (w.heap.size + 2) (thArr u B8 d8) rfl rfl 56 _ HR8.out HSZ8.out (by rw [thArr_size B8 d8 HM8.out.regs]; rfl) (thArr_one u B8 d8) ?_))
          refine bodyPost_ret (results_cell3 Tryd.results53 _ _ (w.heap.size + 2) 56 (thArr u B8 d8) (0, 0) _ rfl (HR8.out.setRow _) Tryd.underlying56 rfl HSZ8.out) rfl ⟨B8, d8, ?_, ?_, (fun k hk => Nat.le_trans (by have := HW2S.out; omega) (HM8.out.own.lt k hk).1), ?_⟩
          · rw [HST.out]; rfl
          · rw [HST.out]
            have hk := HM8.out.ok
            exact ⟨hk.regs, by rw [setRow_size]; exact (own_setRow HM8.out.own (g := w.heap.size + 2) (by have := HW2S.out; omega) _).rowN.more (by rw [setRow_size]; exact Nat.le_refl _), hk.len, hk.cap⟩
          · exact HB2.out.trans (below_setRow (HB8.out.mono (by have := HW2S.out; omega)) (by have := HW2S.out; omega) (Nat.le_trans (by have := HW2S.out; omega) HB8.out.size) _)
end Go.Proofs.YtkfpnppppmccdaaDoor
namespace Go.Proofs.YtkfpnppppmccdaaDoor
open Go.RowKit
set_option maxHeartbeats 2000000 in
set_option maxRecDepth 100000 in
theorem do_done (t : Th) (A B : Option Addr) (c d : Nat) (n : Nat) (ans : Int) (w : World) (ht : ThOk w w.heap.size t B d) (hl : t.stack.length ≤ 1000) (hdn : t.done = true) (fs : List Fn) :
    Calls Tryd.prog 53 #[.agg #[.slice A n c], .agg (thArr t B d), .int .i64 ans] w (DoOut w (stepT fs t ans)) := by
  have HSTEP := Lib.hid (show stepT fs t ans = (t, 0, false) by unfold stepT; rw [if_pos hdn])
  have h11 := thArr_11 B d ht.regs
  rw [hdn] at h11
  have HT := Lib.hid ht
  have HSZ := Lib.hid (show (Tryd.prog.info? 56).map (·.size) = some (thArr t B d).size by rw [thArr_size B d ht.regs]; exact Tryd.infoTh)
  generalize hX : thArr t B d = X at *
  have HX := Lib.hid hX
  have hb0 := below3 w (.cells #[.slice A n c] 24) (.cells X 56) (.cells #[.int .i64 0, .int .i64 0, .int .i64 0, .int .i64 0, .int .i64 0, .int .i64 0, .int .i64 0, .int .i64 0, .int .i64 0, .int .i64 0, .slice none 0 0, .bool false] 56)
  have hW : ∃ W : World, Hid (W = ((w.alloc (.cells #[.slice A n c] 24)).alloc (.cells X 56)).alloc (.cells #[.int .i64 0, .int .i64 0, .int .i64 0, .int .i64 0, .int .i64 0, .int .i64 0, .int .i64 0, .int .i64 0, .int .i64 0, .int .i64 0, .slice none 0 0, .bool false] 56)) := ⟨_, rfl⟩
  obtain ⟨W, HW⟩ := hW
  have hBT : Blk W (w.heap.size + 1) 56 X := by rw [HW.out]; exact Blk.alloc (heap_alloc2_new w _ _) _
  have hBR : Blk W (w.heap.size + 2) 56 #[.int .i64 0, .int .i64 0, .int .i64 0, .int .i64 0, .int .i64 0, .int .i64 0, .int .i64 0, .int .i64 0, .int .i64 0, .int .i64 0, .slice none 0 0, .bool false] := by rw [HW.out]; exact blk3 w _ _ _ _
  rw [← HW.out] at hb0
  have HB0 := Lib.hid hb0
  have HBT := Lib.hid hBT
  have HBR := Lib.hid hBR
  clear hb0 hBT hBR ht hdn hX
  go_enter Tryd.func53, Tryd.ntmps53
  go_wp2_with (refine wpList_load_rowW (by rfl) 56 _ rfl (w.heap.size + 1) rfl 56 X (0, 0) _ (by rw [← HW.out]; exact HBT.out) Tryd.underlying56 rfl HSZ.out ?_)
  rw [← HW.out, ← HX.out]
  refine (vmClone_any t B d W hl (HT.out.step HB0.out)).mono ?_
  rintro e w3 ⟨A3, c3, rfl, hO3, hb3⟩
  have HR3 := Lib.hid (HBR.out.below hb3 HBR.out.lt)
  have HO3 := Lib.hid hO3
  have HB3 := Lib.hid (HB0.out.trans (hb3.mono HB0.out.size))
  have HSZ3 := Lib.hid (show (Tryd.prog.info? 56).map (·.size) = some (thArr t A3 c3).size by rw [thArr_size A3 c3 HT.out.regs]; exact Tryd.infoTh)
  have hz : w.heap.size + 2 < W.heap.size := HBR.out.lt
  clear hO3 hb3
  go_wp2_with (refine wpList_store_row rfl 56 _ _ rfl (w.heap.size + 2) (thArr t A3 c3) rfl rfl 56 _ HR3.out HSZ3.out (by rw [thArr_size A3 c3 HT.out.regs]; rfl) (thArr_one t A3 c3) ?_)
  refine bodyPost_ret (results_cell3 Tryd.results53 _ _ (w.heap.size + 2) 56 (thArr t A3 c3) (0, 0) _ rfl (HR3.out.setRow _) Tryd.underlying56 rfl HSZ3.out) rfl ⟨A3, c3, ?_, ?_, (fun k hk => Nat.le_trans HB0.out.size (HO3.out.lt k hk).1), ?_⟩
  · rw [HSTEP.out]; rfl
  · rw [HSTEP.out]
    have ho := own_setRow HO3.out (g := w.heap.size + 2) hz (thArr t A3 c3)
    refine ⟨HT.out.regs, by rw [setRow_size]; exact ho.rowN.more (by rw [setRow_size]; exact Nat.le_refl _), ?_, ?_⟩
    · rcases HO3.out.2 with ⟨_, h0⟩ | ⟨_, cap, _, hv, _, _, hnc, _⟩
      · simp only; omega
      · injection hv with _ _ h3
        simp only
        omega
    · rcases HO3.out.2 with ⟨hv, h0⟩ | ⟨_, cap, _, hv, _, _, _, hcm, _⟩
      · injection hv with _ _ h3
        rw [h3]
        unfold maxLen
        omega
      · injection hv with _ _ h3
        omega
  · exact below_setRow HB3.out (by omega) HB3.out.size _
theorem stack_le {fs : List Fn} {t : Th} (h : fitsT fs t = true) (hd : t.done = false) : t.stack.length ≤ 16 := by
  unfold fitsT fitsP at h
  rw [hd, Bool.false_or, Bool.and_eq_true, Bool.and_eq_true, Bool.and_eq_true, decide_eq_true_eq] at h
  exact h.2.2.1
theorem vmDo_any (t : Th) (A B : Option Addr) (c d : Nat) (fs : List Fn) (ans : Int) (w : World) (hT : Tab w) (hm0 : fs.length ≤ maxLen) (hf : FnsOk w w.heap.size A fs) (ht : ThOk w w.heap.size t B d) (hfit : fitsT fs t = true) (hl : t.stack.length ≤ 1000) :
    Calls Tryd.prog 53 #[.agg #[.slice A fs.length c], .agg (thArr t B d), .int .i64 ans] w (DoOut w (stepT fs t ans)) := by
  cases hdn : t.done with
  | true => exact do_done t A B c d _ ans w ht hl hdn fs
  | false => exact do_run t A B c d fs ans w hT hm0 hf ht hfit hdn
def zeroT : Th := ⟨0, 0, [0, 0, 0, 0, 0, 0, 0, 0], [], false⟩
/-- A step of any thread. -/
def stepS (fs : List Fn) (t : Th) (ans : Int) : Th × Int × Bool := if fitsT fs t = true then stepT fs t ans else (zeroT, 0, false)
set_option maxHeartbeats 2000000 in
set_option maxRecDepth 100000 in
theorem rNew_any (fn arg : Int) (w : World) : Calls Tryd.prog 36 #[.int .i64 fn, .int .i64 arg] w fun e w' => e = .returned (.agg (thArr ⟨fn, 0, [arg, 0, 0, 0, 0, 0, 0, 0], [], false⟩ none 0)) ∧ Below w.heap.size w w' := by
  go_enter Tryd.func36, Tryd.ntmps36
  go_wp2_with fail
  exact bodyPost_ret (v := .agg (thArr ⟨fn, 0, [arg, 0, 0, 0, 0, 0, 0, 0], [], false⟩ none 0)) (by simp [results, Tryd.results36, go_sem, thArr]) rfl ⟨rfl, below2 w _ _⟩
end Go.Proofs.YtkfpnppppmccdaaDoor
namespace Go.Proofs.YtkfpnppppmccdaaDoor
open Go.RowKit
theorem placeB_of {fs : List Fn} {k m : Nat} (hk : k < fs.length) (hm : m < fs[k].code.length) : placeB fs (k : Int) (m : Int) = true := by
  rw [placeB_nat fs k hk, decide_eq_true_eq]
  omega
theorem ends_table : ∀ k : Nat, k < 24 → k ≠ 6 → k ≠ 9 → k ≠ 14 → opEnds (k : Int) = false := by decide +kernel
theorem ends_no {op : Int} (h0 : 0 ≤ op) (h24 : op < 24) (h6 : op ≠ 6) (h9 : op ≠ 9) (h14 : op ≠ 14) : opEnds op = false := by
  obtain ⟨k, rfl⟩ := Int.eq_ofNat_of_zero_le h0
  exact ends_table k (by omega) (by omega) (by omega) (by omega)
theorem fitsT_of {fs : List Fn} {u : Th} (hr : runB fs = true) (hd : u.done = false) (hp : placeB fs u.fn u.pc = true) (hl : u.stack.length ≤ 16) (hs : placesB fs u.stack = true) : fitsT fs u = true := by
  unfold fitsT fitsP
  rw [hr, hd, hp, hs, decide_eq_true hl]
  rfl
theorem fits_step {fs : List Fn} {t : Th} (ans : Int) (h : fitsT fs t = true) : fitsT fs (stepT fs t ans).1 = true := by
  cases hd : t.done with
  | true =>
    unfold stepT
    rw [if_pos hd]
    exact h
  | false =>
    obtain ⟨hr, k, m, ek, em, hk, hm, ei⟩ := fits_place h hd
    have hl := stack_le h hd
    have hs : placesB fs t.stack = true := by
      unfold fitsT fitsP at h
      rw [hd, Bool.false_or, Bool.and_eq_true, Bool.and_eq_true, Bool.and_eq_true] at h
      exact h.2.2.2
    have hR := run_ins hr hk hm
    have hE := (fn_ok ((run_fn hr).2.2 k hk)).2.2.2 m hm
    have e : (stepT fs t ans).1 = (stepI fs[k].code[m] t ans).1 := by unfold stepT; rw [hd, ei]; rfl
    rw [e]
    generalize fs[k].code[m] = i at *
    unfold stepI
    have hnext : opEnds i.op = false → placeB fs t.fn (t.pc + 1) = true := by
      intro ho
      have := placeB_of hk (hE ho)
      rw [ek, em]
      exact this
    generalize hU : ({ t with regs := regs1 i t ans, pc := t.pc + 1 } : Th) = U
    have uf : U.fn = t.fn := by rw [← hU]
    have up : U.pc = t.pc + 1 := by rw [← hU]
    have us : U.stack = t.stack := by rw [← hU]
    have ud : U.done = false := by rw [← hU]; exact hd
    clear hU
    unfold moveT
    by_cases h7 : i.op = 7
    · rw [if_pos h7]
      simp only
      split
      · exact fitsT_of hr ud (by rw [uf, up]; exact hnext (by rw [h7]; decide +kernel)) (by rw [us]; exact hl) (by rw [us]; exact hs)
      · have hn := hR.toPlace (by rw [h7]; decide +kernel)
        obtain ⟨n, en⟩ := Int.eq_ofNat_of_zero_le hn.1
        refine fitsT_of hr ud ?_ (by show U.stack.length ≤ 16; rw [us]; exact hl) (by show placesB fs U.stack = true; rw [us]; exact hs)
        show placeB fs U.fn i.n = true
        rw [uf, ek, en]
        exact placeB_of hk (by omega)
    rw [if_neg h7]
    by_cases h6 : i.op = 6
    · rw [if_pos h6]
      have hn := hR.toPlace (by rw [h6]; decide +kernel)
      obtain ⟨n, en⟩ := Int.eq_ofNat_of_zero_le hn.1
      refine fitsT_of hr ud ?_ (by show U.stack.length ≤ 16; rw [us]; exact hl) (by show placesB fs U.stack = true; rw [us]; exact hs)
      show placeB fs U.fn i.n = true
      rw [uf, ek, en]
      exact placeB_of hk (by omega)
    rw [if_neg h6]
    by_cases h8 : i.op = 8
    · rw [if_pos h8]
      by_cases h16 : U.stack.length = 16
      · rw [if_pos h16]
        show fitsT fs doneT = true
        unfold fitsT
        rw [hr]
        rfl
      · rw [if_neg h16]
        have hn := hR.toFunc (by rw [h8]; decide +kernel)
        obtain ⟨n, en⟩ := Int.eq_ofNat_of_zero_le hn.1
        have hnl : n < fs.length := by omega
        refine fitsT_of hr ud ?_ ?_ ?_
        · show placeB fs i.n ((0 : Nat) : Int) = true
          rw [en]
          exact placeB_of hnl (fn_ok ((run_fn hr).2.2 n hnl)).1
        · show (U.stack ++ [(U.fn, U.pc)]).length ≤ 16
          rw [List.length_append, us]
          rw [us] at h16
          simp
          omega
        · show placesB fs (U.stack ++ [(U.fn, U.pc)]) = true
          unfold placesB at hs ⊢
          rw [List.all_append, us, hs, Bool.true_and, uf, up]
          simp only [List.all_cons, List.all_nil, Bool.and_true]
          exact hnext (by rw [h8]; decide +kernel)
    rw [if_neg h8]
    by_cases h9 : i.op = 9
    · rw [if_pos h9]
      by_cases h0 : U.stack.length = 0
      · rw [if_pos h0]
        show fitsT fs doneT = true
        unfold fitsT
        rw [hr]
        rfl
      · rw [if_neg h0]
        rw [us] at h0 ⊢
        have hlast : t.stack.length - 1 < t.stack.length := by omega
        have eg : t.stack.getD (t.stack.length - 1) (0, 0) = t.stack[t.stack.length - 1] := by simp [hlast]
        unfold placesB at hs
        rw [List.all_eq_true] at hs
        refine fitsT_of hr ud ?_ ?_ ?_
        · show placeB fs (t.stack.getD (t.stack.length - 1) (0, 0)).1 (t.stack.getD (t.stack.length - 1) (0, 0)).2 = true
          rw [eg]
          exact hs _ (List.getElem_mem hlast)
        · show (t.stack.take (t.stack.length - 1)).length ≤ 16
          rw [List.length_take]
          omega
        · show placesB fs (t.stack.take (t.stack.length - 1)) = true
          unfold placesB
          rw [List.all_eq_true]
          exact fun x hx => hs x (List.mem_of_mem_take hx)
    rw [if_neg h9]
    by_cases h14 : i.op = 14
    · rw [if_pos h14]
      show fitsT fs doneT = true
      unfold fitsT
      rw [hr]
      rfl
    rw [if_neg h14]
    exact fitsT_of hr ud (by rw [uf, up]; exact hnext (ends_no hR.op0 hR.op24 h6 h9 h14)) (by rw [us]; exact hl) (by rw [us]; exact hs)
end Go.Proofs.YtkfpnppppmccdaaDoor

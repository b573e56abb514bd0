/-
  Chapter 11: which threads are the same: contracts of vm.Same, the reference's Same. Condition: the threads lie in memory.
-/
import Derived.Test.YtoacnphgkgklcaaDoorVm2
import Derived.ChangeKeysEq
namespace Go.Proofs.YtoacnphgkgklcaaDoor
open Go.RowKit
theorem all_range_int : ∀ (xs ys : List Int), xs.length = ys.length → ((List.range xs.length).all fun i => xs.getD i 0 == ys.getD i 0) = decide (xs = ys)
  | [], [], _ => rfl
  | x :: xs, y :: ys, h => by
    have ih := all_range_int xs ys (by simpa using h)
    rw [List.length_cons, List.range_succ_eq_map, List.all_cons, List.all_map]
    simp only [List.getD_cons_zero, Function.comp_def, List.getD_cons_succ, ih]
    rw [Bool.eq_iff_iff]
    simp
  | [], _ :: _, h => by simp at h
  | _ :: _, [], h => by simp at h
theorem items_ints {P : Program} {w : World} {e : TypeId} (d : Nat) (he : P.underlying e = some (.int .i64)) (xs ys : List Int) (n : Nat) (hx : xs.length = n) (hy : ys.length = n) :
    ∀ is : List Nat, (∀ i ∈ is, i < n) → (Op.eqItems (d + 1) e 1 (xs.map (Value.int .i64)).toArray (ys.map (Value.int .i64)).toArray is).run P w = .ok (is.all fun i => xs.getD i 0 == ys.getD i 0) w
  | [], _ => by simp [Op.eqItems]
  | i :: is, h => by
    have hi : i < n := h i (by simp)
    have ih := items_ints (P := P) (w := w) d he xs ys n hx hy is (fun j hj => h j (by simp [hj]))
    have px : ∀ zs : List Int, zs.length = n → (part e (zs.map (Value.int .i64)).toArray (i * 1)).run P w = .ok (.int .i64 (zs.getD i 0)) w := fun zs hz => by
      simp [part, isAgg, run_underlying he, List.getD, List.getElem?_eq_getElem (show i < zs.length by omega)]
    simp only [Op.eqItems, Sem.run_bind, px xs hx, px ys hy, run_equalIn_int w d e .i64 .i64 _ _ he, Result.andThen_ok, List.all_cons]
    cases hb : (xs.getD i 0 == ys.getD i 0)
    · simp
    · simpa using ih
theorem equal_ints {P : Program} {w : World} {t e : TypeId} {n : Nat} (d : Nat) (ht : P.underlying t = some (.array n e)) (he : P.underlying e = some (.int .i64)) (hi : (P.info? e).map (·.size) = some 1) (xs ys : List Int) (hx : xs.length = n) (hy : ys.length = n) :
    (Op.equalIn (d + 2) t (.agg (xs.map (Value.int .i64)).toArray) (.agg (ys.map (Value.int .i64)).toArray)).run P w = .ok (decide (xs = ys)) w := by
  cases hq : P.info? e with
  | none => simp [hq] at hi
  | some i =>
    have hs : i.size = 1 := by simpa [hq] using hi
    have hc : P.cellsOf e = 1 := by unfold Program.cellsOf; rw [hq]; exact hs
    rw [run_equalIn_array w (d + 1) _ _ ht hq, hc, items_ints d he xs ys n hx hy (List.range n) (fun j hj => List.mem_range.1 hj)]
    have := all_range_int xs ys (by omega)
    rw [hx] at this
    rw [this]
/-- Threads that are the same. -/
def sameT (a b : Th) : Bool := decide (a.fn = b.fn) && (decide (a.pc = b.pc) && (decide (a.regs = b.regs) && (decide (a.done = b.done) && decide (a.stack = b.stack))))
theorem list8 {l : List Int} (h : l.length = 8) : ∃ r0 r1 r2 r3 r4 r5 r6 r7, l = [r0, r1, r2, r3, r4, r5, r6, r7] := by
  match l, h with
  | [r0, r1, r2, r3, r4, r5, r6, r7], _ => exact ⟨r0, r1, r2, r3, r4, r5, r6, r7, rfl⟩
theorem ThOk.step {w w' : World} {t : Th} {A : Option Addr} {c : Nat} (h : ThOk w w.heap.size t A c) (hb : Below w.heap.size w w') : ThOk w' w'.heap.size t A c := ⟨h.regs, (h.row.below hb).more hb.size, h.len, h.cap⟩
theorem below2 (w : World) (o1 o2 : Obj) : Below w.heap.size w ((w.alloc o1).alloc o2) := ((Below.refl _ _).alloc (Nat.le_refl _) _).alloc (by simp) _
theorem row2 {w : World} {A : Option Addr} {xs : List Value} (h : Row w w.heap.size A xs) (o1 o2 : Obj) : Row ((w.alloc o1).alloc o2) ((w.alloc o1).alloc o2).heap.size A xs := (h.below (below2 w o1 o2)).more (below2 w o1 o2).size
set_option maxHeartbeats 4000000 in
set_option maxRecDepth 100000 in
theorem vmSame_any (a b : Th) (A B : Option Addr) (c d : Nat) (w : World) (ha : ThOk w w.heap.size a A c) (hb : ThOk w w.heap.size b B d) : Calls Tryd.prog 19 #[.agg (thArr a A c), .agg (thArr b B d)] w fun e w' => e = .returned (.bool (sameT a b)) ∧ Below w.heap.size w w' := by
  obtain ⟨fa, pa, ra, sa, da⟩ := a
  obtain ⟨fb, pb, rb, sb, db⟩ := b
  have HA := Lib.hid ha
  have HB := Lib.hid hb
  have h1 := ha.regs
  have h2 := hb.regs
  simp only at h1 h2
  have FEQ : ∀ w', (Op.equalIn 10000 25 (.agg (ra.map (Value.int .i64)).toArray) (.agg (rb.map (Value.int .i64)).toArray)).run Tryd.prog w' = .ok (decide (ra = rb)) w' := fun w' => equal_ints 9998 Tryd.underlying25 Tryd.underlying2 (by kernel_rfl) ra rb h1 h2
  obtain ⟨r0, r1, r2, r3, r4, r5, r6, r7, e1⟩ := list8 h1
  obtain ⟨s0, s1, s2, s3, s4, s5, s6, s7, e2⟩ := list8 h2
  have HD := Lib.hid (show decide (ra = rb) = decide ([r0, r1, r2, r3, r4, r5, r6, r7] = [s0, s1, s2, s3, s4, s5, s6, s7]) by rw [e1, e2])
  generalize hq : decide (ra = rb) = q at *
  have HQ := Lib.hid hq
  subst e1 e2
  simp only [List.map_cons, List.map_nil] at FEQ
  clear h1 h2 ha hb hq
  have eA : thArr ⟨fa, pa, [r0, r1, r2, r3, r4, r5, r6, r7], sa, da⟩ A c = #[.int .i64 fa, .int .i64 pa, .int .i64 r0, .int .i64 r1, .int .i64 r2, .int .i64 r3, .int .i64 r4, .int .i64 r5, .int .i64 r6, .int .i64 r7, .slice A sa.length c, .bool da] := rfl
  have eB : thArr ⟨fb, pb, [s0, s1, s2, s3, s4, s5, s6, s7], sb, db⟩ B d = #[.int .i64 fb, .int .i64 pb, .int .i64 s0, .int .i64 s1, .int .i64 s2, .int .i64 s3, .int .i64 s4, .int .i64 s5, .int .i64 s6, .int .i64 s7, .slice B sb.length d, .bool db] := rfl
  rw [eA, eB]
  clear eA eB
  go_enter Tryd.func19, Tryd.ntmps19
  go_wp2_with fail
  · have h1 : fa = fb := by assumption
    have h2 : pa = pb := by assumption
    have h3 : q = true := by assumption
    have h4 : da = db := by assumption
    have HW := Lib.hid (And.intro h1 (And.intro h2 (And.intro h3 h4)))
    refine (frEqual_any A B sa.length sb.length c d sa sb _ rfl rfl (Nat.le_trans HA.out.len HA.out.cap) (Nat.le_trans HB.out.len HB.out.cap) (row2 HA.out.row _ _) (row2 HB.out.row _ _)).mono ?_
    rintro e w1 ⟨rfl, hb1⟩
    have HB1 := Lib.hid hb1
    clear hb1
    go_wp2_with fail
    go_ret
    refine ⟨?_, (below2 w _ _).trans (HB1.out.mono (below2 w _ _).size)⟩
    obtain ⟨e1, e2, e3, e4⟩ := HW.out
    have e5 := HQ.out
    rw [e3] at e5
    simp only [sameT, e1, e2, e4, e5, decide_true, Bool.true_and]
    rfl
  · have h4 : ¬ da = db := by assumption
    go_ret
    refine ⟨?_, below2 w _ _⟩
    simp [sameT, h4]
  · have h3 : ¬ q = true := by assumption
    go_ret
    refine ⟨?_, below2 w _ _⟩
    have e5 := HQ.out
    rw [Bool.not_eq_true] at h3
    rw [h3] at e5
    simp only [sameT, e5, Bool.false_and, Bool.and_false]
    rfl
  · have h2 : ¬ pa = pb := by assumption
    go_ret
    refine ⟨?_, below2 w _ _⟩
    simp [sameT, h2]
  · have h1 : ¬ fa = fb := by assumption
    go_ret
    refine ⟨?_, below2 w _ _⟩
    simp [sameT, h1]
end Go.Proofs.YtoacnphgkgklcaaDoor

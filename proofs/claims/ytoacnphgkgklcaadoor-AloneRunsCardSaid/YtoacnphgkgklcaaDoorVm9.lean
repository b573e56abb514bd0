/-
  Chapter 11: the instruction at which a thread is. Contracts of vm.At, the reference's At. Conditions: program and thread lie in memory; the table isa.rows.
-/
import Derived.Test.YtoacnphgkgklcaaDoorVm8
namespace Go.Proofs.YtoacnphgkgklcaaDoor
open Go.RowKit
def zeroIns : Ins := ⟨0, 0, 0, 0, 0⟩
/-- The instruction at a place. -/
def insAt (fs : List Fn) (f pc : Int) : Ins := (fs.getD f.toNat noFn).code.getD pc.toNat zeroIns
def insArr (i : Ins) : Array Value := #[.int .i64 i.op, .int .i64 i.a, .int .i64 i.b, .int .i64 i.c, .int .i64 i.n]
theorem fits_place {fs : List Fn} {t : Th} (h : fitsT fs t = true) (hd : t.done = false) : runB fs = true ∧ ∃ k m : Nat, t.fn = k ∧ t.pc = m ∧ ∃ hk : k < fs.length, ∃ hm : m < fs[k].code.length, insAt fs t.fn t.pc = fs[k].code[m] := by
  unfold fitsT fitsP at h
  rw [hd, Bool.false_or, Bool.and_eq_true, Bool.and_eq_true] at h
  obtain ⟨h1, h2, _⟩ := h
  refine ⟨h1, ?_⟩
  unfold placeB at h2
  rw [decide_eq_true_eq] at h2
  obtain ⟨k0, k1, k2, k3⟩ := h2
  have hk : t.fn.toNat < fs.length := by omega
  have e : fs.getD t.fn.toNat noFn = fs[t.fn.toNat] := by simp [hk]
  rw [e] at k3
  have hm : t.pc.toNat < fs[t.fn.toNat].code.length := by omega
  refine ⟨t.fn.toNat, t.pc.toNat, by omega, by omega, hk, hm, ?_⟩
  unfold insAt
  rw [e]
  simp [hm]
/-- Where the instruction lies. -/
theorem FnsOk.fetch {w : World} {B : Nat} {A : Option Addr} {fs : List Fn} (h : FnsOk w B A fs) {k m : Nat} (hk : k < fs.length) (hm : m < fs[k].code.length) :
    ∃ b off b2 off2 an ac : Nat, A = some ⟨b, off, none⟩ ∧ b < B ∧ b2 < B ∧ m < an ∧ an ≤ maxLen ∧ w.cell? ⟨b, off + k * 2, none⟩ = some (.slice (some ⟨b2, off2, none⟩) an ac) ∧ InsOk fs[k].code[m] ∧
      w.cell? ⟨b2, off2 + m * 5, none⟩ = some (.int .i64 fs[k].code[m].op) ∧ w.cell? ⟨b2, off2 + m * 5 + 1, none⟩ = some (.int .i64 fs[k].code[m].a) ∧ w.cell? ⟨b2, off2 + m * 5 + 2, none⟩ = some (.int .i64 fs[k].code[m].b) ∧ w.cell? ⟨b2, off2 + m * 5 + 3, none⟩ = some (.int .i64 fs[k].code[m].c) ∧ w.cell? ⟨b2, off2 + m * 5 + 4, none⟩ = some (.int .i64 fs[k].code[m].n) := by
  obtain ⟨b, off, a, e, hb, h0, h1, hf⟩ := h.at_ k hk
  obtain ⟨b2, off2, e2, hb2, g0, g1, g2, g3, g4⟩ := hf.ins5 m hm
  exact ⟨b, off, b2, off2, a.n, a.c, e, hb, hb2, by rw [hf.1]; exact hm, hf.2.2.2.2.1, by rw [← e2]; exact h0, hf.2.2.2.2.2.2 _ (List.getElem_mem hm), g0, g1, g2, g3, g4⟩
theorem Tryd.infoInsS : (Tryd.prog.info? 32).map (·.size) = some 5 := by kernel_rfl
theorem insArr_one (i : Ins) : (insArr i).all (·.oneCell') = true := by simp [insArr, Value.oneCell']
theorem blk3 (w : World) (o1 o2 : Obj) (t : TypeId) (cs : Array Value) : Blk (((w.alloc o1).alloc o2).alloc (.cells cs t)) (w.heap.size + 2) t cs := by
  have := Blk.new ((w.alloc o1).alloc o2) t cs
  rw [World.size_alloc, World.size_alloc] at this
  exact this
theorem below3 (w : World) (o1 o2 o3 : Obj) : Below w.heap.size w (((w.alloc o1).alloc o2).alloc o3) := (below2 w o1 o2).alloc (by simp; omega) _
set_option maxHeartbeats 4000000 in
theorem rAt_any (t : Th) (A B : Option Addr) (c d : Nat) (fs : List Fn) (w : World) (_hm : fs.length ≤ maxLen) (hf : FnsOk w w.heap.size A fs) (ht : ThOk w w.heap.size t B d) (hfit : fitsT fs t = true) :
    Calls Tryd.prog 15 #[.agg #[.slice A fs.length c], .agg (thArr t B d)] w fun e w' => e = .returned (.tuple #[.agg (insArr (if t.done then zeroIns else insAt fs t.fn t.pc)), .bool (!t.done)]) ∧ Below w.heap.size w w' := by
  have h0 := thArr_0 (t := t) B d
  have h1 := thArr_1 (t := t) B d
  have h11 := thArr_11 B d ht.regs
  unfold maxLen at _hm
  generalize hX : thArr t B d = X at *
  clear hX
  cases hdn : t.done with
  | true =>
    rw [hdn] at h11
    clear hfit hf ht hdn h0 h1
    go_enter Tryd.func15, Tryd.ntmps15
    go_wp2_with fail
    refine bodyPost_ret (v := .tuple #[.agg (insArr zeroIns), .bool false]) (results_cell2 Tryd.results15 _ _ (w.heap.size + 2) 32 (insArr zeroIns) (0, 0) _ rfl (blk3 w _ _ 32 (insArr zeroIns)) Tryd.underlying32 rfl Tryd.infoInsS) rfl ⟨by simp, below3 w _ _ _⟩
  | false =>
    obtain ⟨_, k, m, ek, em, hk, hm, ei⟩ := fits_place hfit hdn
    rw [hdn] at h11
    rw [ei]
    rw [ek] at h0
    rw [em] at h1
    have hb0 := below3 w (.cells #[.slice A fs.length c] 24) (.cells X 28) (.cells #[.int .i64 0, .int .i64 0, .int .i64 0, .int .i64 0, .int .i64 0] 32)
    have hW : ∃ W : World, Hid (W = ((w.alloc (.cells #[.slice A fs.length c] 24)).alloc (.cells X 28)).alloc (.cells #[.int .i64 0, .int .i64 0, .int .i64 0, .int .i64 0, .int .i64 0] 32)) := ⟨_, rfl⟩
    obtain ⟨W, HW⟩ := hW
    have hBP : Blk W w.heap.size 24 #[.slice A fs.length c] := by rw [HW.out]; exact ((Blk.new w _ _).alloc _).alloc _
    have hBT : Blk W (w.heap.size + 1) 28 X := by rw [HW.out]; exact Blk.alloc (heap_alloc2_new w _ _) _
    have hBI : Blk W (w.heap.size + 2) 32 #[.int .i64 0, .int .i64 0, .int .i64 0, .int .i64 0, .int .i64 0] := by
      rw [HW.out]
      exact blk3 w _ _ _ _
    rw [← HW.out] at hb0
    have HB0 := Lib.hid hb0
    have HBI := Lib.hid hBI
    obtain ⟨b, off, b2, off2, an, ac, rfl, hbl, hbl2, hma, hna, hc0, hok, i0, i1, i2, i3, i4⟩ := (hf.below hb0).fetch hk hm
    have hz : w.heap.size + 2 < W.heap.size := hBI.lt
    generalize hI : fs[k].code[m] = ins at *
    unfold maxLen at hna
    have S0 : ∀ w', Below (w.heap.size + 2) W w' → w'.cell? ⟨w.heap.size, 0, none⟩ = some (.slice (some ⟨b, off, none⟩) fs.length c) := fun w' h => (h.cell (p := ⟨w.heap.size, 0, none⟩) (by simp)).trans (hBP.cell 0)
    have S1 : ∀ w', Below (w.heap.size + 2) W w' → w'.cell? ⟨w.heap.size + 1, 0, none⟩ = some (.int .i64 k) := fun w' h => (h.cell (p := ⟨w.heap.size + 1, 0, none⟩) (by simp)).trans ((hBT.cell 0).trans h0)
    have S2 : ∀ w', Below (w.heap.size + 2) W w' → w'.cell? ⟨w.heap.size + 1, 1, none⟩ = some (.int .i64 m) := fun w' h => (h.cell (p := ⟨w.heap.size + 1, 1, none⟩) (by simp)).trans ((hBT.cell 1).trans h1)
    have S3 : ∀ w', Below (w.heap.size + 2) W w' → w'.cell? ⟨b, off + k * 2, none⟩ = some (.slice (some ⟨b2, off2, none⟩) an ac) := fun w' h => (h.cell (p := ⟨b, off + k * 2, none⟩) (by show b < _; omega)).trans hc0
    have S4 : ∀ w', Below (w.heap.size + 2) W w' → w'.cell? ⟨b2, off2 + m * 5, none⟩ = some (.int .i64 ins.op) := fun w' h => (h.cell (p := ⟨b2, off2 + m * 5, none⟩) (by show b2 < _; omega)).trans i0
    have S5 : ∀ w', Below (w.heap.size + 2) W w' → w'.cell? ⟨b2, off2 + m * 5 + 1, none⟩ = some (.int .i64 ins.a) := fun w' h => (h.cell (p := ⟨b2, off2 + m * 5 + 1, none⟩) (by show b2 < _; omega)).trans i1
    have S6 : ∀ w', Below (w.heap.size + 2) W w' → w'.cell? ⟨b2, off2 + m * 5 + 2, none⟩ = some (.int .i64 ins.b) := fun w' h => (h.cell (p := ⟨b2, off2 + m * 5 + 2, none⟩) (by show b2 < _; omega)).trans i2
    have S7 : ∀ w', Below (w.heap.size + 2) W w' → w'.cell? ⟨b2, off2 + m * 5 + 3, none⟩ = some (.int .i64 ins.c) := fun w' h => (h.cell (p := ⟨b2, off2 + m * 5 + 3, none⟩) (by show b2 < _; omega)).trans i3
    have S8 : ∀ w', Below (w.heap.size + 2) W w' → w'.cell? ⟨b2, off2 + m * 5 + 4, none⟩ = some (.int .i64 ins.n) := fun w' h => (h.cell (p := ⟨b2, off2 + m * 5 + 4, none⟩) (by show b2 < _; omega)).trans i4
    clear hfit hf ht hdn h0 h1 ek em ei hb0 hBP hBT hBI hc0 i0 i1 i2 i3 i4 hok hI
    go_enter Tryd.func15, Tryd.ntmps15
    go_wp2_with fail
    rw [← HW.out]
    refine region_sch (fun w' => Below (w.heap.size + 2) W w') [([0, 1, 2, 3, 4, 5, 6, 7, 8, 9, 10], 11)] [12] (by kernel_rfl) (by kernel_rfl) (by kernel_rfl) (fun _ _ d _ _ h => by cases d <;> exact h) (Below.refl _ _).drew ?_
    (try simp only [Act.put, List.setIfInBounds_toArray, List.set_cons_zero, List.set_cons_succ]); refine sch_seg ?_; simp only [pickOps, List.getElem?_toArray, List.getElem?_cons_zero, List.getElem?_cons_succ]; (repeat (first | go_big_quiet_skip | (go_big_quiet_want; first | (go_big_quiet_op; first | go_big_quiet_on | ((first | with_reducible refine ⟨_, fun _ _ => rfl, ?_⟩); go_big_quiet_on)) | (simp (contextual := true) [go_sem, S0, S1, S2, S3, S4, S5, S6, S7, S8]; with_reducible refine ⟨_, fun _ _ => rfl, ?_⟩; go_big_quiet_on)))); refine wpQuiet_nil ?_
    clear S0 S1 S2 S3 S4 S5 S6 S7 S8
    go_wp2_with (refine wpList_store_row rfl 32 _ _ rfl (w.heap.size + 2) (insArr ins) rfl rfl 32 _ (show W.drew.heap[w.heap.size + 2]? = _ from HBI.out) Tryd.infoInsS rfl (insArr_one ins) ?_)
    refine ⟨fun w' => Below (w.heap.size + 2) W w', below_setRow (Below.refl _ _).drew (Nat.le_refl _) (by show _ ≤ W.heap.size; omega) _, fun _ h => h, ?_⟩
    (try simp only [Act.put]); refine sch_end ?_; simp only [pickOps, List.getElem?_toArray, List.getElem?_cons_zero, List.getElem?_cons_succ]; (repeat (first | go_big_quiet_skip | (go_big_quiet_want; first | (go_big_quiet_op; first | go_big_quiet_on | ((first | with_reducible refine ⟨_, fun _ _ => rfl, ?_⟩); go_big_quiet_on)) | (simp (contextual := true) [go_sem, HB0]; with_reducible refine ⟨_, fun _ _ => rfl, ?_⟩; go_big_quiet_on)))); refine wpQuiet_nil ?_
    go_wp2_with fail
    refine bodyPost_ret (v := .tuple #[.agg (insArr ins), .bool true]) (results_cell2 Tryd.results15 _ _ (w.heap.size + 2) 32 (insArr ins) (0, 0) _ rfl (Blk.setRow (show Blk W.drew (w.heap.size + 2) _ _ from HBI.out) _) Tryd.underlying32 rfl Tryd.infoInsS) rfl ⟨rfl, ?_⟩
    exact below_setRow HB0.out.drew (by omega) (by show _ ≤ W.heap.size; omega) _
end Go.Proofs.YtoacnphgkgklcaaDoor

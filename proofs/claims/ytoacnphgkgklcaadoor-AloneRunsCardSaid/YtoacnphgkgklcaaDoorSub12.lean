/-
  Chapter 12: structs that lie within a block, behind others: loaded and stored whole; the world of one goroutine as one block. No function of the program in sight.
-/
import Derived.Test.YtoacnphgkgklcaaDoorDo3
import Derived.Laws.CopyRow
namespace Go.Proofs.YtoacnphgkgklcaaDoor
open Go.RowKit
section
variable {P : Program}
theorem run_loadVar_sub (w : World) (g off : Nat) (t ty : TypeId) (X cs : Array Value) (d : TypeDesc) (hg : Blk w g t X) (hs : ∀ j, j < cs.size → X[off + j]? = cs[j]?)
    (hu : P.underlying ty = some d) (hd : (match d with | .struct _ | .array _ _ => true | _ => false) = true) (hi : (P.info? ty).map (·.size) = some cs.size) :
    (loadVar ty ⟨g, off, none⟩).run P w = .ok (.agg cs) w := by
  have hl : (loadCells ⟨g, off, none⟩ cs.toList.length).run P w = .ok cs.toList.toArray w :=
    run_loadCells_list (P := P) w ⟨g, off, none⟩ cs.toList (fun j v hv => by
      have hj : j < cs.size := by have := (List.getElem?_eq_some_iff.1 hv).1; simpa using this
      rw [Addr.add_lit, hg.cell, hs j hj]
      simpa using hv)
  cases hq : P.info? ty with
  | none => simp [hq] at hi
  | some i =>
    have hsz : i.size = cs.size := by simpa [hq] using hi
    have hagg : (isAgg ty).run P w = .ok true w := by
      unfold isAgg
      rw [Sem.run_bind, run_underlying hu w]
      cases d <;> simp_all
    simp only [Array.length_toList, Array.toArray_toList] at hl
    simp [loadVar, Sem.run_bind, hagg, sizeOf, typeInfo, hq, hsz, hl]
theorem wpList_load_subW {ops : Array Oper} {rest : List Oper} {o : Oper} {a : Act} {w : World} {Q : Exit → Act → World → Prop} (hw : Region.wanted o (yielded ops a.tmps) = true) (ty : TypeId) (x : Operand) (ho : o.op = .load ty x)
    (g off : Nat) (hx : a.eval x = .pointer (some ⟨g, off, none⟩)) (t : TypeId) (X cs : Array Value) (d : TypeDesc) (hg : Blk w g t X) (hs : ∀ j, j < cs.size → X[off + j]? = cs[j]?)
    (hu : P.underlying ty = some d) (hd : (match d with | .struct _ | .array _ _ => true | _ => false) = true) (hi : (P.info? ty).map (·.size) = some cs.size)
    (h : wpList P ops Q rest (a.put o.dst (.agg cs)) w) : wpList P ops Q (o :: rest) a w :=
  wpList_wanted hw fun _ hK => by
    unfold Oper.wp execOp
    simp only [ho, hx, Instr.loadAt, Instr.sureAddr, Sem.run_bind, Sem.run_pure, Result.andThen_ok, run_loadVar_sub w g off t ty X cs d hg hs hu hd hi]
    exact hK _ _ h
/-- What a block holds behind a struct was written into it. -/
def splice (X : Array Value) (off : Nat) (cs : Array Value) : Array Value := (X.toList.take off ++ cs.toList ++ X.toList.drop (off + cs.size)).toArray
theorem run_storeVar_sub (w : World) (g off : Nat) (t ty : TypeId) (X cs : Array Value) (hg : Blk w g t X) (hi : (P.info? ty).map (·.size) = some cs.size) (ho : off + cs.size ≤ X.size) (h1 : cs.all (·.oneCell') = true) :
    (storeVar ty ⟨g, off, none⟩ (.agg cs)).run P w = .ok () (w.setRow g (splice X off cs)) := by
  have := run_storeCells_at (P := P) g off t cs.toList 0 X w hg (by simp; omega) (fun v hv => (Array.all_eq_true_iff_forall_mem.1 h1) v (by simpa using hv))
  cases hq : P.info? ty with
  | none => simp [hq] at hi
  | some i =>
    have hs : cs.size = i.size := by simp [hq] at hi; omega
    unfold splice
    simp [storeVar, sizeOf, typeInfo, hq, Value.cells, hs, this]
theorem wpList_store_sub {ops : Array Oper} {rest : List Oper} {o : Oper} {a : Act} {w : World} {Q : Exit → Act → World → Prop} (hgd : o.guard = none) (ty : TypeId) (x y : Operand) (ho : o.op = .store ty x y)
    (g off : Nat) (cs : Array Value) (hx : a.eval x = .pointer (some ⟨g, off, none⟩)) (hy : a.eval y = .agg cs) (t : TypeId) (X : Array Value) (hg : Blk w g t X) (hi : (P.info? ty).map (·.size) = some cs.size)
    (hs : off + cs.size ≤ X.size) (h1 : cs.all (·.oneCell') = true)
    (h : wpList P ops Q rest (a.put o.dst undef) (w.setRow g (splice X off cs))) : wpList P ops Q (o :: rest) a w :=
  wpList_plain hgd fun _ hK => by
    unfold Oper.wp execOp
    simp only [ho, hx, hy, Instr.storeAt, Instr.sureAddr, Sem.run_bind, Sem.run_pure, Result.andThen_ok, run_storeVar_sub w g off t ty X cs hg hi hs h1]
    exact hK _ _ h
end
/-- What one goroutine's world knows. -/
structure Wd where
  emits : List Int
  steps : Int
  th : Th
  stuck : Bool
  stopped : Bool
  token : Bool
/-- Its cells. -/
def wdArr (d : Wd) (E : Option Addr) (ce : Nat) (B : Option Addr) (cb : Nat) : Array Value := ([Value.slice E d.emits.length ce, .int .i64 d.steps] ++ (thArr d.th B cb).toList ++ [Value.bool d.stuck, Value.bool d.stopped, Value.bool d.token]).toArray
section
variable {d : Wd} (E : Option Addr) (ce : Nat) (B : Option Addr) (cb : Nat) (h : d.th.regs.length = 8)
theorem wdArr_0 : (wdArr d E ce B cb)[0]? = some (.slice E d.emits.length ce) := by simp [wdArr]
theorem wdArr_1 : (wdArr d E ce B cb)[1]? = some (.int .i64 d.steps) := by simp [wdArr]
include h
theorem wdArr_size : (wdArr d E ce B cb).size = 17 := by
  have := thArr_size B cb h
  unfold wdArr
  simp [this]
theorem wdArr_th (j : Nat) (hj : j < 12) : (wdArr d E ce B cb)[2 + j]? = (thArr d.th B cb)[j]? := by
  have hs := thArr_size B cb h
  unfold wdArr
  rw [List.getElem?_toArray, List.getElem?_append_left (by simp [hs]; omega), List.getElem?_append_right (by simp)]
  simp
theorem wdArr_end (j : Nat) : (wdArr d E ce B cb)[14 + j]? = [Value.bool d.stuck, .bool d.stopped, .bool d.token][j]? := by
  have hs := thArr_size B cb h
  unfold wdArr
  rw [List.getElem?_toArray, List.getElem?_append_right (by simp [hs])]
  congr 1
  simp [hs]
theorem wdArr_reg (x : Nat) (hx : x < 8) : (wdArr d E ce B cb)[4 + x]? = some (.int .i64 (d.th.regs.getD x 0)) := by
  have := wdArr_th E ce B cb h (2 + x) (by omega)
  rw [← Nat.add_assoc] at this
  rw [this]
  exact thArr_reg B cb h x hx
end
end Go.Proofs.YtoacnphgkgklcaaDoor

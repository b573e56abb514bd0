/-
  Chapter 14: a task in memory; Done, Steps, end, loadHead, loadTail.
-/
import Derived.Test.YthnhjhlpimgkiaaMnw14
import Derived.Laws.EntriesVeiled
namespace Go.Proofs.Ythnhjhlpimgkiaa
open Go.RowKit
/-- What a task holds. -/
structure Tk where
  d : Option Nat
  g : Int
  old : Int
  head : Nat
  tail : Nat
  many : Nat
  buf : Value
  got : Value
  steps : Nat
/-- The access that comes next, as a value. -/
def doV : Option Nat → Value
  | none => .nilFunc
  | some k => .func (.func k) #[] #[]
def Tk.cells (T : Tk) (gr : Nat) : Array Value := #[.pointer (some ⟨gr, 0, none⟩), doV T.d, .int .i64 T.g, .int .i64 T.old, .int .u32 T.head, .int .u32 T.tail, .int .u32 T.many, T.buf, T.got, .int .i64 T.steps]
/-- The numbers of a task are small ones. -/
def Tk.Ok (T : Tk) : Prop := T.steps < 900000 ∧ T.head < 4294967296 ∧ T.tail < 4294967296 ∧ T.many < 4294967296
/-- A task in block gt, its ring in gr, its cells. -/
structure M14 (w : World) (gt gr gc gl kc : Nat) (ex : List Value) (size : Nat) (xs : List Int) (cnt : Nat) (T : Tk) : Prop where
  cells : CellsIs w gc gl kc ex xs cnt
  ring : Blk w gr 59 #[.pointer (some ⟨gc, 0, none⟩), .int .i64 size]
  task : Blk w gt 64 (T.cells gr)
  n1 : gt ≠ gr ∧ gt ≠ gc ∧ gt ≠ gl
  n2 : gr ≠ gc ∧ gr ≠ gl
  fits : (size = 2 ∨ size = 4 ∨ size = 8) ∧ size + 3 ≤ xs.length
  few : cnt < 900000
  ok : T.Ok
theorem doNil (k : Nat) (w : World) : (binOp .eql 61 (.func (.func k) #[] #[]) .nilFunc).run Try.prog w = .ok (.bool false) w := by kernel_rfl
theorem doNil0 (w : World) : (binOp .eql 61 .nilFunc .nilFunc).run Try.prog w = .ok (.bool true) w := by kernel_rfl
theorem ten_ {w : World} {g : Nat} {t : TypeId} {a b c d e f i j k l : Value} (h : Blk w g t #[a, b, c, d, e, f, i, j, k, l]) :
    w.cell? ⟨g, 0, none⟩ = some a ∧ w.cell? ⟨g, 1, none⟩ = some b ∧ w.cell? ⟨g, 2, none⟩ = some c ∧ w.cell? ⟨g, 3, none⟩ = some d ∧ w.cell? ⟨g, 4, none⟩ = some e ∧ w.cell? ⟨g, 5, none⟩ = some f ∧ w.cell? ⟨g, 6, none⟩ = some i ∧ w.cell? ⟨g, 7, none⟩ = some j ∧ w.cell? ⟨g, 8, none⟩ = some k ∧ w.cell? ⟨g, 9, none⟩ = some l := by
  refine ⟨(h.cell 0).trans rfl, (h.cell 1).trans rfl, (h.cell 2).trans rfl, (h.cell 3).trans rfl, (h.cell 4).trans rfl, (h.cell 5).trans rfl, (h.cell 6).trans rfl, (h.cell 7).trans rfl, (h.cell 8).trans rfl, (h.cell 9).trans rfl⟩
theorem mdone_nil (w : World) : Calls Try.prog 10 #[.pointer none] w fun e w' => e = .returned (.bool true) ∧ w = w' := by
  go_enter Try.func10, Try.ntmps10
  go_wp2
  go_ret
  exact ⟨rfl, rfl⟩
theorem mdone_any {w : World} {gt gr : Nat} {T : Tk} (h : Blk w gt 64 (T.cells gr)) : Calls Try.prog 10 #[.pointer (some ⟨gt, 0, none⟩)] w fun e w' => e = .returned (.bool T.d.isNone) ∧ w = w' := by
  obtain ⟨_, q1, _⟩ := ten_ h
  have z0 := doNil0
  clear h
  obtain ⟨d, g, old, head, tail, many, buf, got, steps⟩ := T
  cases d with
  | none =>
    simp only [doV] at q1
    go_enter Try.func10, Try.ntmps10
    go_wp2
    go_ret
    exact ⟨rfl, rfl⟩
  | some k =>
    simp only [doV] at q1
    have z1 := doNil k
    go_enter Try.func10, Try.ntmps10
    go_wp2
    go_ret
    exact ⟨rfl, rfl⟩
theorem msteps_nil (w : World) : Calls Try.prog 15 #[.pointer none] w fun e w' => e = .returned (.int .i64 0) ∧ w = w' := by
  go_enter Try.func15, Try.ntmps15
  go_wp2
  go_ret
  exact ⟨rfl, rfl⟩
theorem msteps_any {w : World} {gt gr : Nat} {T : Tk} (h : Blk w gt 64 (T.cells gr)) : Calls Try.prog 15 #[.pointer (some ⟨gt, 0, none⟩)] w fun e w' => e = .returned (.int .i64 T.steps) ∧ w = w' := by
  obtain ⟨q0, q1, q2, q3, q4, q5, q6, q7, q8, q9⟩ := ten_ h
  clear h q0 q1 q2 q3 q4 q5 q6 q7 q8
  go_enter Try.func15, Try.ntmps15
  go_wp2
  go_ret
  exact ⟨rfl, rfl⟩
theorem Blk.frz {w : World} {g : Nat} {t : TypeId} {cs : Array Value} (h : Blk w g t cs) : ∀ i, w.frozen? ⟨g, i, none⟩ = false := h.frozen
theorem mend_any {w : World} {gt gr : Nat} {T : Tk} (h : Blk w gt 64 (T.cells gr)) (A : Option Addr) (n c : Nat) : Calls Try.prog 27 #[.pointer (some ⟨gt, 0, none⟩), .slice A n c] w fun e w' => e = .returned (.tuple #[]) ∧ w' = (w.setCell ⟨gt, 1, none⟩ .nilFunc).setCell ⟨gt, 8, none⟩ (.slice A n c) := by
  obtain ⟨q0, q1, q2, q3, q4, q5, q6, q7, q8, q9⟩ := ten_ h
  have f1 := h.frozen 1
  have f8 := h.frozen 8
  clear h q0 q2 q3 q4 q5 q6 q7 q9
  obtain ⟨d, g, old, head, tail, many, buf, got, steps⟩ := T
  cases d <;>
  · simp only [doV] at q1
    simp only at q8
    go_enter Try.func27, Try.ntmps27
    go_wp2
    go_end0
    exact ⟨rfl, rfl⟩
end Go.Proofs.Ythnhjhlpimgkiaa

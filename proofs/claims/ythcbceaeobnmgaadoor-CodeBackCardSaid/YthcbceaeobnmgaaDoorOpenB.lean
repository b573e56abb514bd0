/-
  Arguments opened to plain lists: slices of booleans, slices of bytes, by value. No function of the program in sight.
-/
import Derived.Test.YthcbceaeobnmgaaDoorOpen
import Derived.Test.YthcbceaeobnmgaaDoorBoolv
import Derived.Test.YthcbceaeobnmgaaDoorStr
namespace Go.Proofs.YthcbceaeobnmgaaDoor
open Go.RowKit Go.ChangeShapes Go.WideShapes Go.Deep Go.Joins
section
variable {H : Type} {enc : TypeId × Value → H} {P : Program} {w : World} {base base' : Nat}
/-- An argument that is a slice of booleans, nil let in. -/
theorem open_boolrow {t e : TypeId} {v : Value} {d : DataW H} {p : List MemPlace} (ht : P.underlying t = some (.slice e)) (he : P.underlying e = some .bool) (hc : P.cellsOf e = 1)
    (hv : Value.okWide P w .any base' t v) (h : DataW.Trod enc P w base (fun _ => true) true t v d p) (hlt : ∀ x ∈ p, x.block < w.heap.size) :
    ∃ (A : Option Addr) (n c : Nat) (ss : List Bool), v = .slice A n c ∧ ss.length = n ∧ n ≤ c ∧ c ≤ maxLen ∧ Row w w.heap.size A (boolVals ss) := by
  obtain ⟨a0, len, cap, rfl⟩ := okWide_slice ht hv
  obtain ⟨fuel, hf⟩ := h
  exact open_bools ht he hc hf hlt
/-- An argument that is a slice of bytes, nil let in. -/
theorem open_byterow {t e : TypeId} {v : Value} {d : DataW H} {p : List MemPlace} (ht : P.underlying t = some (.slice e)) (he : P.underlying e = some (.int .u8)) (hc : P.cellsOf e = 1)
    (hv : Value.okWide P w .any base' t v) (h : DataW.Trod enc P w base (fun _ => true) true t v d p) (hlt : ∀ x ∈ p, x.block < w.heap.size) :
    ∃ (A : Option Addr) (n c : Nat) (l : List Nat), v = .slice A n c ∧ l.length = n ∧ n ≤ c ∧ c ≤ maxLen ∧ (∀ x ∈ l, x < 256) ∧ Row w w.heap.size A (byteVals l) := by
  obtain ⟨a0, len, cap, rfl⟩ := okWide_slice ht hv
  obtain ⟨fuel, hf⟩ := h
  obtain ⟨A, n, c, l, h1, h2, h3, h4, h5, h6⟩ := open_slice_of (fun x : Nat => [Value.int .u8 (x : Int)]) 1 (fun _ => rfl) (by omega) (fun x => x < 256) ht hc
    (fun n cs y hy _ => by
      obtain ⟨z, rfl, _, hwf⟩ := DataW.trod_int he hy
      simp [Lit.wf, IntKind.min, IntKind.max, IntKind.signed, IntKind.bits] at hwf
      refine ⟨z.toNat, ?_, by omega⟩
      rw [show ((z.toNat : Nat) : Int) = z by omega]) hf hlt
  exact ⟨A, n, c, l, h1, h2, h3, h4, h5, by rw [flat_one] at h6; exact h6⟩
end
end Go.Proofs.YthcbceaeobnmgaaDoor

/-
  Chapter 14's arguments opened: where a ring begins, an act. No function of the program in sight.
-/
import Derived.Test.YthnhjhlpimgkiaaOpen
import Derived.Test.YthnhjhlpimgkiaaLai14
namespace Go.Proofs.Ythnhjhlpimgkiaa
open Go.RowKit Go.ChangeShapes Go.WideShapes Go.Deep Go.Joins
section
variable {H : Type} {enc : TypeId × Value → H} {w : World} {base : Nat}
theorem u32_wf {x : Int} (h : (Lit.int .u32 x).wf = true) : 0 ≤ x ∧ x < 4294967296 := by
  simp [Lit.wf, IntKind.min, IntKind.max, IntKind.signed, IntKind.bits] at h
  exact ⟨by omega, by omega⟩
theorem Try.und2 : Try.prog.underlying 2 = some (.int .i64) := by kernel_rfl
/-- A slice of ints, in whatever reading. -/
theorem open_ints_of {t : TypeId} {fuel : Nat} {v : Value} {x : DataW H × List MemPlace} (ht : Try.prog.underlying t = some (.slice 3)) (h : DataW.trod enc Try.prog w base (fun _ => true) true fuel t [v] = some x) (hlt : ∀ q ∈ x.2, q.block < w.heap.size) :
    ∃ (A : Option Addr) (n c : Nat) (zs : List Int), v = .slice A n c ∧ zs.length = n ∧ n ≤ c ∧ c ≤ maxLen ∧ (∀ z ∈ zs, I64 z) ∧ Row w w.heap.size A (ints zs) := by
  obtain ⟨A, n, c, l, h1, h2, h3, h4, h5, h6⟩ := open_slice_of (fun b : Int => [Value.int .i64 b]) 1 (fun _ => rfl) (by omega) I64 ht (by kernel_rfl)
    (fun n cs y hy _ => by
      obtain ⟨b, rfl, _, wb⟩ := DataW.trod_int Try.underlying3 hy
      exact ⟨b, rfl, i64_wf wb⟩) h hlt
  exact ⟨A, n, c, l, h1, h2, h3, h4, h5, by rw [flat_one] at h6; exact h6⟩
/-- Where a ring begins. -/
theorem open_begin {b0 : Nat} {v : Value} {d : DataW H} {p : List MemPlace} (hv : Value.okWide Try.prog w .any b0 37 v) (h : DataW.Trod enc Try.prog w base (fun _ => true) true 37 v d p) (hlt : ∀ q ∈ p, q.block < w.heap.size) :
    ∃ (a nx : Int) (A : Option Addr) (n c : Nat) (row : List Int), v = .agg #[.int .u32 a, .slice A n c, .int .i64 nx] ∧ (0 ≤ a ∧ a < 4294967296) ∧ row.length = n ∧ Row w w.heap.size A (ints row) := by
  obtain ⟨cs, rfl, hsz⟩ := okWide_struct Try.underlying37 hv
  obtain ⟨fuel, hf⟩ := h
  obtain ⟨hlen, k, hg⟩ := open_fields Try.underlying37 (by kernel_rfl) (by kernel_rfl) hf
  obtain ⟨c0, y0, k0, g0, _⟩ := hg 0 _ rfl
  obtain ⟨c1, y1, k1, g1, p1⟩ := hg 1 _ rfl
  obtain ⟨c2, y2, k2, g2, _⟩ := hg 2 _ rfl
  obtain ⟨a, e0, _, w0⟩ := DataW.trod_int (by kernel_rfl : Try.prog.underlying 34 = some (.int .u32)) g0
  obtain ⟨A, n, c, row, rfl, hl, _, _, _, hr⟩ := open_ints_of (by kernel_rfl) g1 (fun q hq => hlt q (p1 q hq))
  obtain ⟨nx, e2, _, w2⟩ := DataW.trod_int Try.underlying3 g2
  simp only [List.cons.injEq, and_true] at e0 e2
  subst e0 e2
  obtain ⟨l⟩ := cs
  simp only [Value.cells] at hlen k0 k1 k2
  match l, hlen with
  | [x0, x1, x2], _ =>
    simp at k0 k1 k2
    subst k0 k1 k2
    exact ⟨a, nx, A, n, c, row, rfl, u32_wf w0, hl, hr⟩
/-- An act. -/
theorem open_act {b0 : Nat} {v : Value} {d : DataW H} {p : List MemPlace} (hv : Value.okWide Try.prog w .any b0 39 v) (h : DataW.Trod enc Try.prog w base (fun _ => true) true 39 v d p) :
    ∃ (kind g : Int), v = .agg #[.int .i64 kind, .int .i64 g] := by
  obtain ⟨cs, rfl, hsz⟩ := okWide_struct Try.underlying39 hv
  obtain ⟨fuel, hf⟩ := h
  obtain ⟨hlen, k, hg⟩ := open_fields Try.underlying39 (by kernel_rfl) (by kernel_rfl) hf
  obtain ⟨c0, y0, k0, g0, _⟩ := hg 0 _ rfl
  obtain ⟨c1, y1, k1, g1, _⟩ := hg 1 _ rfl
  obtain ⟨a, e0, _, w0⟩ := DataW.trod_int Try.underlying3 g0
  obtain ⟨b, e1, _, w1⟩ := DataW.trod_int Try.und2 g1
  simp only [List.cons.injEq, and_true] at e0 e1
  subst e0 e1
  obtain ⟨l⟩ := cs
  simp only [Value.cells] at hlen k0 k1
  match l, hlen with
  | [x0, x1], _ =>
    simp at k0 k1
    subst k0 k1
    exact ⟨a, b, rfl⟩
end
end Go.Proofs.Ythnhjhlpimgkiaa

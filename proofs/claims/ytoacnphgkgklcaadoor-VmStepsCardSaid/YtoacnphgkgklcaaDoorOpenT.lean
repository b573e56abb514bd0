/-
  An argument that is a thread, by value, opened. No function of the program in sight.
-/
import Derived.Test.YtoacnphgkgklcaaDoorVm3
namespace Go.Proofs.YtoacnphgkgklcaaDoor
open Go.RowKit Go.ChangeShapes Go.WideShapes Go.Deep Go.Joins
section
variable {H : Type} {enc : TypeId × Value → H} {w : World} {base : Nat}
theorem Tryd.cellsTh : Tryd.prog.cellsOf 28 = 12 := by kernel_rfl
theorem Tryd.cellsFr : Tryd.prog.cellsOf 64 = 2 := by kernel_rfl
theorem Tryd.cellsR8 : Tryd.prog.cellsOf 25 = 8 := by kernel_rfl
theorem fr_of {n : Nat} {cs : List Value} {y : DataW H × List MemPlace} (h : DataW.trod enc Tryd.prog w base (fun _ => true) true n 64 cs = some y) : ∃ f : Int × Int, cs = frVals f ∧ True := by
  obtain ⟨hlen, k, hg⟩ := open_fields Tryd.underlying64 (by kernel_rfl) Tryd.cellsFr h
  obtain ⟨c0, y0, k0, g0, _⟩ := hg 0 _ rfl
  obtain ⟨c1, y1, k1, g1, _⟩ := hg 1 _ rfl
  obtain ⟨b0, e0, _, w0⟩ := DataW.trod_int Tryd.underlying3 g0
  obtain ⟨b1, e1, _, w1⟩ := DataW.trod_int Tryd.underlying3 g1
  simp only [List.cons.injEq, and_true] at e0 e1
  subst e0 e1
  match cs, hlen with
  | [x0, x1], _ =>
    simp at k0 k1
    subst k0 k1
    exact ⟨(b0, b1), rfl, trivial⟩
theorem r8_of {n : Nat} {cs : List Value} {y : DataW H × List MemPlace} (h : DataW.trod enc Tryd.prog w base (fun _ => true) true n 25 cs = some y) : ∃ rs : List Int, rs.length = 8 ∧ cs = rs.map (Value.int .i64) := by
  obtain ⟨xs, m, _, hx, hlen, hxl, hf⟩ := DataW.trod_array Tryd.underlying25 h
  rw [Tryd.cellsR8] at hlen
  have hc : Tryd.prog.cellsOf 2 = 1 := by kernel_rfl
  have each : ∀ i, i < 8 → ∃ z : Int, cs[i]? = some (.int .i64 z) := by
    intro i hi
    have h1 := hf i hi
    rw [hc, Nat.mul_one] at h1
    have hxs : xs[i]? = some (xs[i]'(by omega)) := List.getElem?_eq_getElem (by omega)
    rw [hxs] at h1
    obtain ⟨z, e, _, _⟩ := DataW.trod_int Tryd.underlying2 h1
    refine ⟨z, ?_⟩
    have := congrArg (·[0]?) e
    simpa [List.getElem?_take, List.getElem?_drop] using this
  obtain ⟨z0, e0⟩ := each 0 (by omega)
  obtain ⟨z1, e1⟩ := each 1 (by omega)
  obtain ⟨z2, e2⟩ := each 2 (by omega)
  obtain ⟨z3, e3⟩ := each 3 (by omega)
  obtain ⟨z4, e4⟩ := each 4 (by omega)
  obtain ⟨z5, e5⟩ := each 5 (by omega)
  obtain ⟨z6, e6⟩ := each 6 (by omega)
  obtain ⟨z7, e7⟩ := each 7 (by omega)
  clear each hf hxl hx h
  match cs, hlen with
  | [x0, x1, x2, x3, x4, x5, x6, x7], _ =>
    simp at e0 e1 e2 e3 e4 e5 e6 e7
    subst e0 e1 e2 e3 e4 e5 e6 e7
    exact ⟨[z0, z1, z2, z3, z4, z5, z6, z7], rfl, rfl⟩
set_option maxRecDepth 100000 in
/-- A thread by value. -/
theorem open_thread {b0 : Nat} {v : Value} {d : DataW H} {p : List MemPlace} (hv : Value.okWide Tryd.prog w .any b0 28 v) (h : DataW.Trod enc Tryd.prog w base (fun _ => true) true 28 v d p) (hlt : ∀ q ∈ p, q.block < w.heap.size) :
    ∃ (t : Th) (A : Option Addr) (c : Nat), v = .agg (thArr t A c) ∧ ThOk w w.heap.size t A c := by
  obtain ⟨cs, rfl, hsz⟩ := okWide_struct Tryd.underlying28 hv
  obtain ⟨fuel, hf⟩ := h
  obtain ⟨xs, n, _, hx, hlen, hxl, hg⟩ := DataW.trod_struct Tryd.underlying28 hf
  have hpl : ∀ (j : Nat) (hj : j < xs.length), ∀ q ∈ (xs[j]).2, q.block < w.heap.size := by
    intro j hj q hq
    refine hlt q ?_
    have := congrArg Prod.snd hx
    simp only at this
    rw [this]
    exact List.mem_flatMap.2 ⟨_, List.getElem_mem hj, hq⟩
  have g0 : DataW.trod enc Tryd.prog w base (fun _ => true) true n 3 ((cs.toList.drop 0).take (Tryd.prog.cellsOf 3)) = xs[0]? := hg 0 _ rfl
  have g1 : DataW.trod enc Tryd.prog w base (fun _ => true) true n 3 ((cs.toList.drop 1).take (Tryd.prog.cellsOf 3)) = xs[1]? := hg 1 _ rfl
  have g2 : DataW.trod enc Tryd.prog w base (fun _ => true) true n 25 ((cs.toList.drop 2).take (Tryd.prog.cellsOf 25)) = xs[2]? := hg 2 _ rfl
  have g3 : DataW.trod enc Tryd.prog w base (fun _ => true) true n 26 ((cs.toList.drop 10).take (Tryd.prog.cellsOf 26)) = xs[3]? := hg 3 _ rfl
  have g4 : DataW.trod enc Tryd.prog w base (fun _ => true) true n 4 ((cs.toList.drop 11).take (Tryd.prog.cellsOf 4)) = xs[4]? := hg 4 _ rfl
  have hxl5 : xs.length = 5 := hxl
  rw [List.getElem?_eq_getElem (by omega)] at g0 g1 g2 g3 g4
  have p3 := hpl 3 (by omega)
  obtain ⟨l⟩ := cs
  rw [Tryd.cellsTh] at hlen
  have c1 : Tryd.prog.cellsOf 3 = 1 := by kernel_rfl
  have c4 : Tryd.prog.cellsOf 4 = 1 := by kernel_rfl
  have c26 : Tryd.prog.cellsOf 26 = 1 := by kernel_rfl
  simp only [Value.cells] at hlen
  rw [c1] at g0 g1
  rw [Tryd.cellsR8] at g2
  rw [c26] at g3
  rw [c4] at g4
  have hl : ∃ x0 x1 x2 x3 x4 x5 x6 x7 x8 x9 x10 x11, l = [x0, x1, x2, x3, x4, x5, x6, x7, x8, x9, x10, x11] := by
    match l, hlen with
    | [x0, x1, x2, x3, x4, x5, x6, x7, x8, x9, x10, x11], _ => exact ⟨x0, x1, x2, x3, x4, x5, x6, x7, x8, x9, x10, x11, rfl⟩
  obtain ⟨x0, x1, x2, x3, x4, x5, x6, x7, x8, x9, x10, x11, rfl⟩ := hl
  simp only [List.drop_zero, List.drop_succ_cons, List.take_succ_cons, List.take_zero] at g0 g1 g2 g3 g4
  obtain ⟨z0, e0, _, _⟩ := DataW.trod_int Tryd.underlying3 g0
  obtain ⟨z1, e1, _, _⟩ := DataW.trod_int Tryd.underlying3 g1
  obtain ⟨rs, hr8, e2⟩ := r8_of g2
  obtain ⟨b4, e4, _⟩ := DataW.trod_bool Tryd.underlying4 g4
  obtain ⟨A, m, c, st, e3, h1, h2, h3, h4, h5⟩ := open_slice_of frVals 2 frVals_len (by omega) (fun _ => True) Tryd.underlying26 Tryd.cellsFr (fun _ _ _ hy _ => fr_of hy) g3 p3
  simp only [List.cons.injEq, and_true] at e0 e1 e4
  subst e0 e1 e3 e4
  refine ⟨⟨z0, z1, rs, st, b4⟩, A, c, ?_, ⟨hr8, h5, by rw [h1]; exact h2, h3⟩⟩
  unfold thArr
  simp only
  rw [← e2, h1]
  rfl
end
end Go.Proofs.YtoacnphgkgklcaaDoor

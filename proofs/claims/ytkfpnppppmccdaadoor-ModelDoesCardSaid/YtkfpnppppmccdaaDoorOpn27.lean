/-
  Chapter 27: the law's arguments, opened: a Conf, a row of events.
-/
import Derived.Test.YtkfpnppppmccdaaDoorMMd27
import Derived.Test.YtkfpnppppmccdaaDoorFrameD
namespace Go.Proofs.YtkfpnppppmccdaaDoor
open Go.ChangeShapes Go.WideShapes Go.ChangeAt Go.RowKit Go.Joins Go.Deep
theorem Tryd.cellsConf : Tryd.prog.cellsOf 26 = 3 := by kernel_rfl
set_option maxRecDepth 100000 in
theorem open_conf {H : Type} {enc : TypeId × Value → H} {w : World} {base b0 : Nat} {v : Value} {d : DataW H} {p : List MemPlace} (hv : Value.okWide Tryd.prog w .any b0 26 v) (h : DataW.Trod enc Tryd.prog w base (fun _ => true) true 26 v d p) :
    ∃ x y z : Int, v = .agg #[.int .i64 x, .int .i64 y, .int .i64 z] := by
  obtain ⟨cs, rfl, hsz⟩ := okWide_struct Tryd.underlying26 hv
  obtain ⟨fuel, hf⟩ := h
  obtain ⟨hlen, k, hg⟩ := open_fields Tryd.underlying26 (by kernel_rfl) Tryd.cellsConf hf
  obtain ⟨c0, y0, k0, g0, _⟩ := hg 0 _ rfl
  obtain ⟨c1, y1, k1, g1, _⟩ := hg 1 _ rfl
  obtain ⟨c2, y2, k2, g2, _⟩ := hg 2 _ rfl
  obtain ⟨b0, e0, _, _⟩ := DataW.trod_int Tryd.underlying3 g0
  obtain ⟨b1, e1, _, _⟩ := DataW.trod_int Tryd.underlying3 g1
  obtain ⟨b2, e2, _, _⟩ := DataW.trod_int Tryd.underlying3 g2
  simp only [List.cons.injEq, and_true] at e0 e1 e2
  subst e0 e1 e2
  obtain ⟨l⟩ := cs
  simp only [Value.cells] at hlen k0 k1 k2
  match l, hlen with
  | [x0, x1, x2], _ =>
    simp at k0 k1 k2
    subst k0 k1 k2
    exact ⟨b0, b1, b2, rfl⟩
section
variable {H : Type} {enc : TypeId × Value → H} {w : World} {base : Nat}
theorem Tryd.cellsEv : Tryd.prog.cellsOf 43 = 5 := by kernel_rfl
theorem evVals_len (e : Ev) : (evVals e).length = 5 := rfl
set_option maxRecDepth 100000 in
theorem ev_of {n : Nat} {cs : List Value} {y : DataW H × List MemPlace} (h : DataW.trod enc Tryd.prog w base (fun _ => true) true n 43 cs = some y) : ∃ e : Ev, cs = evVals e ∧ True := by
  obtain ⟨hlen, k, hg⟩ := open_fields Tryd.underlying43 (by kernel_rfl) Tryd.cellsEv h
  obtain ⟨c0, y0, k0, g0, _⟩ := hg 0 _ rfl
  obtain ⟨c1, y1, k1, g1, _⟩ := hg 1 _ rfl
  obtain ⟨c2, y2, k2, g2, _⟩ := hg 2 _ rfl
  obtain ⟨c3, y3, k3, g3, _⟩ := hg 3 _ rfl
  obtain ⟨c4, y4, k4, g4, _⟩ := hg 4 _ rfl
  obtain ⟨b0, e0, _, _⟩ := DataW.trod_int Tryd.underlying3 g0
  obtain ⟨b1, e1, _, _⟩ := DataW.trod_int Tryd.underlying3 g1
  obtain ⟨b2, e2, _, _⟩ := DataW.trod_int Tryd.underlying3 g2
  obtain ⟨b3, e3, _, _⟩ := DataW.trod_int Tryd.underlying3 g3
  obtain ⟨b4, e4, _, _⟩ := DataW.trod_int Tryd.underlying2 g4
  simp only [List.cons.injEq, and_true] at e0 e1 e2 e3 e4
  subst e0 e1 e2 e3 e4
  match cs, hlen with
  | [x0, x1, x2, x3, x4], _ =>
    simp at k0 k1 k2 k3 k4
    subst k0 k1 k2 k3 k4
    exact ⟨⟨b0, b1, b2, b3, b4⟩, rfl, trivial⟩
set_option maxRecDepth 100000 in
/-- An argument that is a row of events, nil let in. -/
theorem open_evs {b0 : Nat} {v : Value} {d : DataW H} {p : List MemPlace} (hv : Value.okWide Tryd.prog w .any b0 27 v) (h : DataW.Trod enc Tryd.prog w base (fun _ => true) true 27 v d p) (hlt : ∀ x ∈ p, x.block < w.heap.size) :
    ∃ (A : Option Addr) (n c : Nat) (l : List Ev), v = .slice A n c ∧ l.length = n ∧ n ≤ maxLen ∧ Row w w.heap.size A (l.flatMap evVals) := by
  obtain ⟨a0, len, cap, rfl⟩ := okWide_slice Tryd.underlying27 hv
  obtain ⟨fuel, hf⟩ := h
  obtain ⟨A, n, c, l, h1, h2, h3, h4, -, h6⟩ := open_slice_of evVals 5 evVals_len (by omega) (fun _ : Ev => True) Tryd.underlying27 Tryd.cellsEv (fun n cs y hy _ => ev_of hy) hf hlt
  exact ⟨A, n, c, l, h1, h2, Nat.le_trans h3 h4, h6⟩
end
end Go.Proofs.YtkfpnppppmccdaaDoor

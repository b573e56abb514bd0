/-
  The table of instructions: what the variable isa.rows holds, as plain rows and as cells.
-/
import Derived.Test.YtfgaonkoaolffaaDoorRows
import Derived.Test.YtfgaonkoaolffaaDoorMem
import Derived.Test.YtfgaonkoaolffaaDoorOpen
import Derived.Lib.LaidTab
import Derived.OpenShut
namespace Go.Proofs.YtfgaonkoaolffaaDoor
open Go.RowKit Go.ChangeShapes Go.WideShapes Go.Deep Go.Joins
/-- A row: the name's bytes, how many registers, what the number is, whether it is a number, waits, ends, asks. -/
structure OpRow where
  name : List UInt8
  regs : Int
  target : Int
  number : Bool
  waits : Bool
  ends : Bool
  asks : Bool
def tabT : List OpRow := [⟨[110, 111, 112], 0, 0, false, false, false, false⟩, ⟨[99, 111, 110, 115, 116], 1, 0, true, false, false, false⟩, ⟨[97, 100, 100], 3, 0, false, false, false, false⟩, ⟨[115, 117, 98], 3, 0, false, false, false, false⟩, ⟨[109, 117, 108], 3, 0, false, false, false, false⟩, ⟨[108, 101, 115, 115], 3, 0, false, false, false, false⟩, ⟨[106, 117, 109, 112], 0, 1, false, false, true, false⟩, ⟨[105, 102], 1, 1, false, false, false, false⟩, ⟨[99, 97, 108, 108], 0, 2, false, false, false, false⟩, ⟨[114, 101, 116], 0, 0, false, false, true, false⟩, ⟨[115, 112, 97, 119, 110], 1, 2, false, false, false, true⟩, ⟨[121, 105, 101, 108, 100], 0, 0, false, true, false, false⟩, ⟨[98, 108, 111, 99, 107], 0, 0, false, true, false, false⟩, ⟨[114, 101, 97, 100, 121], 1, 0, false, false, false, true⟩, ⟨[101, 120, 105, 116], 0, 0, false, false, true, false⟩, ⟨[101, 109, 105, 116], 1, 0, false, false, false, false⟩, ⟨[115, 121, 115], 1, 0, false, true, false, false⟩, ⟨[115, 116, 111, 112], 0, 0, false, true, false, false⟩, ⟨[115, 116, 97, 114, 116], 0, 0, false, false, false, false⟩, ⟨[98, 97, 114, 114, 105, 101, 114], 0, 0, false, true, false, false⟩, ⟨[115, 117, 115, 112, 101, 110, 100], 1, 0, false, true, false, true⟩, ⟨[114, 101, 115, 117, 109, 101], 1, 0, false, false, false, true⟩, ⟨[114, 101, 115, 105, 122, 101], 1, 0, false, false, false, true⟩, ⟨[115, 101, 108, 102], 1, 0, false, false, false, true⟩]
def noRow : OpRow := ⟨[], 0, 0, false, false, false, false⟩
def rowVals (r : OpRow) : List Value := [.string ⟨r.name.toArray⟩, .int .i64 r.regs, .int .i64 r.target, .bool r.number, .bool r.waits, .bool r.ends, .bool r.asks]
def rowData {H : Type} (r : OpRow) : DataW H := .agg [.lit (.string r.name), .lit (.int .i64 r.regs), .lit (.int .i64 r.target), .lit (.bool r.number), .lit (.bool r.waits), .lit (.bool r.ends), .lit (.bool r.asks)]
/-- The row of an op; the empty one of none. -/
def opRow (op : Int) : OpRow := if 0 ≤ op then tabT.getD op.toNat noRow else noRow
theorem Tryd.gRows : Tryd.prog.globalNamed "escapement/isa.rows" = some 0 := by kernel_rfl
theorem Tryd.gRowsType : (Tryd.prog.globals[0]?).map (·.type) = some 86 := by kernel_rfl
theorem Tryd.cellsRow : Tryd.prog.cellsOf 70 = 7 := by kernel_rfl
theorem Tryd.cellsTab : Tryd.prog.cellsOf 86 = 168 := by kernel_rfl
/-- The table lies in block 0. -/
def tabArr : Array Value := (tabT.flatMap rowVals).toArray
def Tab (w : World) : Prop := ∃ t fr, w.heap[0]? = some (.cells tabArr t fr)
theorem rowVals_len (r : OpRow) : (rowVals r).length = 7 := rfl
section
variable {H : Type} {enc : TypeId × Value → H} {w : World} {base : Nat} {held : Bool} {spare : Nat → Bool}
theorem fields_data {P : Program} {t : TypeId} {fs : Array Field} {fuel : Nat} {cs : List Value} {x : DataW H × List MemPlace} (hs : P.underlying t = some (.struct fs)) (hone : oneCellFields P fs = true)
    (hC : P.cellsOf t = fs.size) (h : DataW.trod enc P w base spare held fuel t cs = some x) :
    cs.length = fs.size ∧ ∃ (xs : List (DataW H × List MemPlace)) (n : Nat), x.1 = .agg (xs.map (·.1)) ∧ xs.length = fs.size ∧
      ∀ (j : Nat) (f : Field), fs[j]? = some f → ∃ (v : Value) (y : DataW H × List MemPlace), cs[j]? = some v ∧ xs[j]? = some y ∧ DataW.trod enc P w base spare held n f.type [v] = some y := by
  obtain ⟨xs, n, _, hx, hlen, hxl, hf⟩ := DataW.trod_struct hs h
  refine ⟨hlen.trans hC, xs, n, by rw [hx], hxl, fun j f hj => ?_⟩
  obtain ⟨ho, hk⟩ := hone_of hone j f hj
  have hjl : j < fs.size := (Array.getElem?_eq_some_iff.1 hj).1
  have hcl : j < cs.length := by rw [hlen, hC]; exact hjl
  have h1 := hf j f hj
  rw [ho, hk] at h1
  have hone' : (cs.drop j).take 1 = [cs[j]] := by
    rw [List.drop_eq_getElem_cons hcl]
    rfl
  rw [hone'] at h1
  have hys : xs[j]? = some (xs[j]'(by omega)) := List.getElem?_eq_getElem (by omega)
  exact ⟨_, _, List.getElem?_eq_getElem hcl, hys, h1.trans hys⟩
theorem str_eq {s : ByteArray} {l : List UInt8} (h : s.data.toList = l) : Value.string s = .string ⟨l.toArray⟩ := by
  subst h; simp
theorem row_of_data {fuel : Nat} {cs : List Value} {r : OpRow} {p : List MemPlace} (h : DataW.trod enc Tryd.prog w base spare held fuel 70 cs = some (rowData r, p)) : cs = rowVals r := by
  obtain ⟨hlen, xs, n, hx, hxl, hf⟩ := fields_data Tryd.underlying70 (by kernel_rfl) Tryd.cellsRow h
  obtain ⟨v0, y0, k0, m0, g0⟩ := hf 0 _ rfl
  obtain ⟨v1, y1, k1, m1, g1⟩ := hf 1 _ rfl
  obtain ⟨v2, y2, k2, m2, g2⟩ := hf 2 _ rfl
  obtain ⟨v3, y3, k3, m3, g3⟩ := hf 3 _ rfl
  obtain ⟨v4, y4, k4, m4, g4⟩ := hf 4 _ rfl
  obtain ⟨v5, y5, k5, m5, g5⟩ := hf 5 _ rfl
  obtain ⟨v6, y6, k6, m6, g6⟩ := hf 6 _ rfl
  obtain ⟨s, e0, rfl, _⟩ := DataW.trod_string Tryd.underlying9 g0
  obtain ⟨a1, e1, rfl, _⟩ := DataW.trod_int Tryd.underlying3 g1
  obtain ⟨a2, e2, rfl, _⟩ := DataW.trod_int Tryd.underlying3 g2
  obtain ⟨b3, e3, rfl⟩ := DataW.trod_bool Tryd.underlying4 g3
  obtain ⟨b4, e4, rfl⟩ := DataW.trod_bool Tryd.underlying4 g4
  obtain ⟨b5, e5, rfl⟩ := DataW.trod_bool Tryd.underlying4 g5
  obtain ⟨b6, e6, rfl⟩ := DataW.trod_bool Tryd.underlying4 g6
  simp only [List.cons.injEq, and_true] at e0 e1 e2 e3 e4 e5 e6
  subst e0 e1 e2 e3 e4 e5 e6
  clear hf g0 g1 g2 g3 g4 g5 g6
  match xs, hxl with
  | [z0, z1, z2, z3, z4, z5, z6], _ =>
    match cs, hlen with
    | [c0, c1, c2, c3, c4, c5, c6], _ =>
      simp at k0 k1 k2 k3 k4 k5 k6 m0 m1 m2 m3 m4 m5 m6
      subst k0 k1 k2 k3 k4 k5 k6 m0 m1 m2 m3 m4 m5 m6
      simp [rowData] at hx
      obtain ⟨h0, h1, h2, h3, h4, h5, h6⟩ := hx
      rw [str_eq h0.symm, ← h1, ← h2, ← h3, ← h4, ← h5, ← h6]
      rfl
/-- What the row's list gives: the table's cells. -/
theorem tab_cells {fuel : Nat} {cs : List Value} {p : List MemPlace} {n : Nat} (T : List OpRow) (ht24 : T.length = 24) (hn : n = 24) (ht : Tryd.prog.underlying 86 = some (.array n 70)) (h : DataW.trod enc Tryd.prog w base spare held fuel 86 cs = some (.agg (T.map rowData), p)) : cs = T.flatMap rowVals := by
  obtain ⟨xs, m, _, hx, hlen, hxl, hf⟩ := DataW.trod_array ht h
  have hx1 : xs.map (·.1) = T.map rowData := by
    have := congrArg Prod.fst hx
    simpa using this.symm
  rw [Tryd.cellsTab] at hlen
  apply List.ext_getElem?
  intro j
  by_cases hj : j < 168
  · have hq : j / 7 < 24 := by omega
    have hr : j % 7 < 7 := by omega
    have h1 := hf (j / 7) (by omega)
    rw [Tryd.cellsRow] at h1
    have hxs : xs[j / 7]? = some (xs[j / 7]'(by omega)) := List.getElem?_eq_getElem (by omega)
    rw [hxs] at h1
    have hd : (xs[j / 7]'(by omega)).1 = rowData (T[j / 7]'(by omega)) := by
      have h2 : (xs.map (·.1))[j / 7]? = (T.map rowData)[j / 7]? := by rw [hx1]
      rw [List.getElem?_map, List.getElem?_map, hxs, List.getElem?_eq_getElem (by omega)] at h2
      simpa using h2
    have h3 : DataW.trod enc Tryd.prog w base spare held m 70 ((cs.drop (j / 7 * 7)).take 7) = some (rowData (T[j / 7]'(by omega)), (xs[j / 7]'(by omega)).2) := by rw [h1, ← hd]
    have h4 := row_of_data h3
    have h5 : cs[j]? = (rowVals (T[j / 7]'(by omega)))[j % 7]? := by
      have e : j / 7 * 7 + j % 7 = j := by omega
      rw [← h4, List.getElem?_take, if_pos hr, List.getElem?_drop, e]
    rw [h5]
    have h6 : (rowVals (T[j / 7]'(by omega)))[j % 7]? = some ((rowVals (T[j / 7]'(by omega)))[j % 7]'(by rw [rowVals_len]; exact hr)) := List.getElem?_eq_getElem _
    rw [h6]
    have h7 := flat_at rowVals_len T (j / 7) (j % 7) _ _ (List.getElem?_eq_getElem (by omega)) h6
    have e : j / 7 * 7 + j % 7 = j := by omega
    rw [e] at h7
    exact h7.symm
  · rw [List.getElem?_eq_none (by omega), List.getElem?_eq_none (by rw [flat_length rowVals_len]; omega)]
end
theorem laid_is : (Rows.laid_escapement_isa_rows : DataW Unit) = .agg (tabT.map rowData) := by kernel_rfl
theorem tab_of_laid {W : World} (h : laidMet Tryd.prog [("escapement/isa.rows", Rows.laid_escapement_isa_rows)] W) : Tab W := by
  obtain ⟨ps, ⟨g', t', cs, fuel, p, q, hg', ht', hvar, hd, _, _⟩, _⟩ := h
  obtain rfl := Option.some.inj (Tryd.gRows.symm.trans hg')
  obtain rfl := Option.some.inj (Tryd.gRowsType.symm.trans ht')
  rw [laid_is] at hd
  have hc := tab_cells tabT rfl rfl Tryd.underlying86 hd
  unfold World.var? at hvar
  rw [Tryd.gRows] at hvar
  simp only [Option.bind_some] at hvar
  have hcs : cs = tabArr := by
    unfold tabArr
    rw [← hc]
  rw [hcs] at hvar
  revert hvar
  cases hh : W.heap[0]? with
  | none => intro h; cases h
  | some o =>
    cases o with
    | cells cs' t fr =>
      intro h
      obtain rfl : cs' = tabArr := by simpa using h
      exact ⟨t, fr, hh⟩
    | map => intro h; simp at h
    | _ => intro h; simp at h
end Go.Proofs.YtfgaonkoaolffaaDoor

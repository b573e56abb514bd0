/-
  Contracts of the functions of package isa that look into the table. Condition: the table is laid.
-/
import Derived.Test.YtfgaonkoaolffaaDoorTab
import Derived.Test.YtfgaonkoaolffaaDoorCalm
import Derived.WalkSpells
import Derived.WalkLawsBesides
namespace Go.Proofs.YtfgaonkoaolffaaDoor
open Go.RowKit
theorem Tab.pos {w : World} (h : Tab w) : 0 < w.heap.size := by
  obtain ⟨t, fr, h⟩ := h
  rcases Nat.lt_or_ge 0 w.heap.size with h1 | h1
  · exact h1
  · rw [Array.getElem?_eq_none (by omega)] at h; cases h
theorem Tab.keep {w w' : World} {B : Nat} (h : Tab w) (hb : Below B w w') (hB : 0 < B) : Tab w' := by
  obtain ⟨t, fr, h⟩ := h
  exact ⟨t, fr, (hb.block 0 hB).trans h⟩
theorem Tab.step {w w' : World} (h : Tab w) (hb : Below w.heap.size w w') : Tab w' := h.keep hb h.pos
theorem Tab.alloc {w : World} (h : Tab w) (o : Obj) : Tab (w.alloc o) := h.step ((Below.refl _ _).alloc (Nat.le_refl _) _)
theorem opRow_in (k : Nat) (hk : k < 24) : tabT[k]? = some (opRow k) := by
  have : k < tabT.length := hk
  simp [opRow, this]
theorem opRow_out (op : Int) (h : op < 0 ∨ 24 ≤ op) : opRow op = noRow := by
  unfold opRow
  rcases h with h | h
  · rw [if_neg (by omega)]
  · rw [if_pos (by omega), List.getD_eq_getElem?_getD, List.getElem?_eq_none]
    · rfl
    · have : tabT.length = 24 := rfl
      omega
theorem Tab.cell {w : World} (h : Tab w) (k j : Nat) (hk : k < 24) (u : Value) (hu : (rowVals (opRow k))[j]? = some u) : w.cell? ⟨0, k * 7 + j, none⟩ = some u := by
  obtain ⟨t, fr, h⟩ := h
  rw [cell_of_row w 0 (k * 7 + j) tabArr t fr h]
  unfold tabArr
  simpa using flat_at rowVals_len tabT k j _ _ (opRow_in k hk) hu
/-- A row as a value. -/
def rowV (r : OpRow) : Value := .agg #[.string ⟨r.name.toArray⟩, .int .i64 r.regs, .int .i64 r.target, .bool r.number, .bool r.waits, .bool r.ends, .bool r.asks]
theorem of_in (k : Nat) (hk : k < 24) (w : World) (hT : Tab w) : Calls Tryd.prog 51 #[.int .i64 k] w fun e w' => e = .returned (rowV (opRow k)) ∧ Below w.heap.size w w' := by
  have hpos := hT.pos
  have q0 : ∀ o, (w.alloc o).cell? ⟨0, k * 7, none⟩ = some (.string ⟨(opRow k).name.toArray⟩) := fun o => (hT.alloc o).cell k 0 hk _ rfl
  have q1 : ∀ o, (w.alloc o).cell? ⟨0, k * 7 + 1, none⟩ = some (.int .i64 (opRow k).regs) := fun o => (hT.alloc o).cell k 1 hk _ rfl
  have q2 : ∀ o, (w.alloc o).cell? ⟨0, k * 7 + 2, none⟩ = some (.int .i64 (opRow k).target) := fun o => (hT.alloc o).cell k 2 hk _ rfl
  have q3 : ∀ o, (w.alloc o).cell? ⟨0, k * 7 + 3, none⟩ = some (.bool (opRow k).number) := fun o => (hT.alloc o).cell k 3 hk _ rfl
  have q4 : ∀ o, (w.alloc o).cell? ⟨0, k * 7 + 4, none⟩ = some (.bool (opRow k).waits) := fun o => (hT.alloc o).cell k 4 hk _ rfl
  have q5 : ∀ o, (w.alloc o).cell? ⟨0, k * 7 + 5, none⟩ = some (.bool (opRow k).ends) := fun o => (hT.alloc o).cell k 5 hk _ rfl
  have q6 : ∀ o, (w.alloc o).cell? ⟨0, k * 7 + 6, none⟩ = some (.bool (opRow k).asks) := fun o => (hT.alloc o).cell k 6 hk _ rfl
  unfold rowV
  generalize opRow k = r at *
  obtain ⟨nm, rg, tg, nu, wa, en, as_⟩ := r
  simp only at q0 q1 q2 q3 q4 q5 q6 ⊢
  clear hT
  go_enter Tryd.func51, Tryd.ntmps51
  go_wp2
  exact bodyPost_ret (v := .agg #[.string ⟨nm.toArray⟩, .int .i64 rg, .int .i64 tg, .bool nu, .bool wa, .bool en, .bool as_]) (by simp [results, Tryd.results51, go_sem]) rfl ⟨rfl, (Below.refl _ _).alloc (Nat.le_refl _) _⟩
theorem of_out (op : Int) (h : op < 0 ∨ 24 ≤ op) (w : World) : Calls Tryd.prog 51 #[.int .i64 op] w fun e w' => e = .returned (rowV noRow) ∧ Below w.heap.size w w' := by
  rcases h with h | h
  all_goals
    go_enter Tryd.func51, Tryd.ntmps51
    go_wp2
    exact bodyPost_ret (v := rowV noRow) (by simp [results, Tryd.results51, go_sem, rowV, noRow]) rfl ⟨rfl, (Below.refl _ _).alloc (Nat.le_refl _) _⟩
/-- What the table says of an op. -/
def opName (op : Int) : ByteArray := ⟨(opRow op).name.toArray⟩
def opRegs (op : Int) : Int := (opRow op).regs
def opTarget (op : Int) : Int := (opRow op).target
def opNumber (op : Int) : Bool := (opRow op).number
def opWaits (op : Int) : Bool := (opRow op).waits
def opEnds (op : Int) : Bool := (opRow op).ends
def opAsks (op : Int) : Bool := (opRow op).asks
theorem of_any (op : Int) (w : World) (hT : Tab w) : Calls Tryd.prog 51 #[.int .i64 op] w fun e w' => e = .returned (.agg #[.string (opName op), .int .i64 (opRegs op), .int .i64 (opTarget op), .bool (opNumber op), .bool (opWaits op), .bool (opEnds op), .bool (opAsks op)]) ∧ Below w.heap.size w w' := by
  have h : Calls Tryd.prog 51 #[.int .i64 op] w fun e w' => e = .returned (rowV (opRow op)) ∧ Below w.heap.size w w' := by
    by_cases h : op < 0 ∨ 24 ≤ op
    · rw [opRow_out op h]; exact of_out op h w
    · obtain ⟨k, rfl⟩ := Int.eq_ofNat_of_zero_le (show 0 ≤ op by omega)
      exact of_in k (by omega) w hT
  exact h
theorem fldRow0 (x0 x2 : Int) (s : ByteArray) (x1 x3 : Bool) (x4 x5 : Bool) (W : World) : (Instr.field 70 (.agg #[.string s, .int .i64 x0, .int .i64 x2, .bool x1, .bool x3, .bool x4, .bool x5]) 0).run Tryd.prog W = .ok (.string s) W := by kernel_rfl
theorem fldRow1 (x0 x2 : Int) (s : ByteArray) (x1 x3 : Bool) (x4 x5 : Bool) (W : World) : (Instr.field 70 (.agg #[.string s, .int .i64 x0, .int .i64 x2, .bool x1, .bool x3, .bool x4, .bool x5]) 1).run Tryd.prog W = .ok (.int .i64 x0) W := by kernel_rfl
theorem fldRow2 (x0 x2 : Int) (s : ByteArray) (x1 x3 : Bool) (x4 x5 : Bool) (W : World) : (Instr.field 70 (.agg #[.string s, .int .i64 x0, .int .i64 x2, .bool x1, .bool x3, .bool x4, .bool x5]) 2).run Tryd.prog W = .ok (.int .i64 x2) W := by kernel_rfl
theorem fldRow3 (x0 x2 : Int) (s : ByteArray) (x1 x3 : Bool) (x4 x5 : Bool) (W : World) : (Instr.field 70 (.agg #[.string s, .int .i64 x0, .int .i64 x2, .bool x1, .bool x3, .bool x4, .bool x5]) 3).run Tryd.prog W = .ok (.bool x1) W := by kernel_rfl
theorem fldRow4 (x0 x2 : Int) (s : ByteArray) (x1 x3 : Bool) (x4 x5 : Bool) (W : World) : (Instr.field 70 (.agg #[.string s, .int .i64 x0, .int .i64 x2, .bool x1, .bool x3, .bool x4, .bool x5]) 4).run Tryd.prog W = .ok (.bool x3) W := by kernel_rfl
theorem fldRow5 (x0 x2 : Int) (s : ByteArray) (x1 x3 : Bool) (x4 x5 : Bool) (W : World) : (Instr.field 70 (.agg #[.string s, .int .i64 x0, .int .i64 x2, .bool x1, .bool x3, .bool x4, .bool x5]) 5).run Tryd.prog W = .ok (.bool x4) W := by kernel_rfl
theorem fldRow6 (x0 x2 : Int) (s : ByteArray) (x1 x3 : Bool) (x4 x5 : Bool) (W : World) : (Instr.field 70 (.agg #[.string s, .int .i64 x0, .int .i64 x2, .bool x1, .bool x3, .bool x4, .bool x5]) 6).run Tryd.prog W = .ok (.bool x5) W := by kernel_rfl
theorem isaTarget_any (op : Int) (w : World) (hT : Tab w) : Calls Tryd.prog 40 #[.int .i64 op] w fun e w' => e = .returned (.int .i64 (opTarget op)) ∧ Below w.heap.size w w' := by
  have HT := Lib.hid hT
  clear hT
  have hfl := fldRow2 (opRegs op) (opTarget op) (opName op) (opNumber op) (opWaits op) (opEnds op) (opAsks op)
  go_enter Tryd.func40, Tryd.ntmps40
  go_wp2_with (go_at_call 51; refine (of_any _ _ HT.out).mono ?_; rintro e w1 ⟨rfl, hb1⟩)
  go_ret
  exact ⟨rfl, hb1⟩
theorem isaWaits_any (op : Int) (w : World) (hT : Tab w) : Calls Tryd.prog 53 #[.int .i64 op] w fun e w' => e = .returned (.bool (opWaits op)) ∧ Below w.heap.size w w' := by
  have HT := Lib.hid hT
  clear hT
  have hfl := fldRow4 (opRegs op) (opTarget op) (opName op) (opNumber op) (opWaits op) (opEnds op) (opAsks op)
  go_enter Tryd.func53, Tryd.ntmps53
  go_wp2_with (go_at_call 51; refine (of_any _ _ HT.out).mono ?_; rintro e w1 ⟨rfl, hb1⟩)
  go_ret
  exact ⟨rfl, hb1⟩
theorem isaEnds_any (op : Int) (w : World) (hT : Tab w) : Calls Tryd.prog 41 #[.int .i64 op] w fun e w' => e = .returned (.bool (opEnds op)) ∧ Below w.heap.size w w' := by
  have HT := Lib.hid hT
  clear hT
  have hfl := fldRow5 (opRegs op) (opTarget op) (opName op) (opNumber op) (opWaits op) (opEnds op) (opAsks op)
  go_enter Tryd.func41, Tryd.ntmps41
  go_wp2_with (go_at_call 51; refine (of_any _ _ HT.out).mono ?_; rintro e w1 ⟨rfl, hb1⟩)
  go_ret
  exact ⟨rfl, hb1⟩
end Go.Proofs.YtfgaonkoaolffaaDoor

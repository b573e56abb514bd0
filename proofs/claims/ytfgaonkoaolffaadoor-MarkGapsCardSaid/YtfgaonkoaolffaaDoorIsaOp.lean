/-
  Contract of isa.Op: the op of a name. Condition: the table is laid.
-/
import Derived.Test.YtfgaonkoaolffaaDoorIsa
import Derived.Laws.Rows
namespace Go.Proofs.YtfgaonkoaolffaaDoor
open Go.RowKit
theorem tab_index : ∀ (k : Nat) (_ : k < 24) (W : World), (Instr.index 86 (.agg tabArr) (.int .i64 (k : Int))).run Tryd.prog W = .ok (.agg #[.string (opName k), .int .i64 (opRegs k), .int .i64 (opTarget k), .bool (opNumber k), .bool (opWaits k), .bool (opEnds k), .bool (opAsks k)]) W
  | 0, _, W => by kernel_rfl
  | 1, _, W => by kernel_rfl
  | 2, _, W => by kernel_rfl
  | 3, _, W => by kernel_rfl
  | 4, _, W => by kernel_rfl
  | 5, _, W => by kernel_rfl
  | 6, _, W => by kernel_rfl
  | 7, _, W => by kernel_rfl
  | 8, _, W => by kernel_rfl
  | 9, _, W => by kernel_rfl
  | 10, _, W => by kernel_rfl
  | 11, _, W => by kernel_rfl
  | 12, _, W => by kernel_rfl
  | 13, _, W => by kernel_rfl
  | 14, _, W => by kernel_rfl
  | 15, _, W => by kernel_rfl
  | 16, _, W => by kernel_rfl
  | 17, _, W => by kernel_rfl
  | 18, _, W => by kernel_rfl
  | 19, _, W => by kernel_rfl
  | 20, _, W => by kernel_rfl
  | 21, _, W => by kernel_rfl
  | 22, _, W => by kernel_rfl
  | 23, _, W => by kernel_rfl
  | k + 24, h, _ => absurd h (by omega)
theorem Tryd.infoTab : (Tryd.prog.info? 86).map (·.size) = some tabArr.size := by kernel_rfl
theorem all_succ {P : Nat → Prop} {k : Nat} (h : ∀ i, i < k → P i) (hk : P k) : ∀ i, i < k + 1 → P i := fun i hi => by
  by_cases hik : i = k
  · subst hik; exact hk
  · exact h i (by omega)
/-- The op of a name: the first row that has it. -/
def opFind (nm : ByteArray) : Option Nat := (List.range 24).find? fun i => (opName i).toList == nm.toList
def opAt (nm : ByteArray) : Int := ((opFind nm).getD 0 : Nat)
def opIs (nm : ByteArray) : Bool := (opFind nm).isSome
theorem find_yes (nm : ByteArray) (k : Nat) (hk : k < 24) (he : ((opName k).toList == nm.toList) = true) (hno : ∀ i : Nat, i < k → ((opName i).toList == nm.toList) = false) : opFind nm = some k := by
  unfold opFind
  rw [List.find?_range_eq_some]
  exact ⟨he, by simpa using hk, fun j hj => by rw [hno j hj]; rfl⟩
theorem find_no (nm : ByteArray) (hno : ∀ i : Nat, i < 24 → ((opName i).toList == nm.toList) = false) : opFind nm = none := by
  unfold opFind
  rw [List.find?_range_eq_none]
  exact fun i hi => by rw [hno i hi]; rfl
end Go.Proofs.YtfgaonkoaolffaaDoor

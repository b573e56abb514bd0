/-
  Contract of isa.Op: the op of a name. Condition: the table is laid.
-/
import Derived.Test.YtlkmpafendggiaaDoorIsa
import Derived.Laws.Rows
namespace Go.Proofs.YtlkmpafendggiaaDoor
open Go.RowKit
theorem tab_index : ∀ (k : Nat) (_ : k < 24) (W : World), (Instr.index 81 (.agg tabArr) (.int .i64 (k : Int))).run Tryd.prog W = .ok (.agg #[.string (opName k), .int .i64 (opRegs k), .int .i64 (opTarget k), .bool (opNumber k), .bool (opWaits k), .bool (opEnds k), .bool (opAsks k)]) W
  | 0, _, W => by kernel_rfl
  | 1, _, W => by kernel_rfl
  | 2, _, W => by kernel_rfl
  | 3, _, W => by kernel_rfl
  | 4, _, W => by kernel_rfl
  | 5, _, W => by kernel_rfl
  | 6, _, W => by kernel_rfl
  | 7, _, W => by kernel_rfl
  | 8, _, W => by kernel_rfl
  | 9, _, W => by kernel_rfl
  | 10, _, W => by kernel_rfl
  | 11, _, W => by kernel_rfl
  | 12, _, W => by kernel_rfl
  | 13, _, W => by kernel_rfl
  | 14, _, W => by kernel_rfl
  | 15, _, W => by kernel_rfl
  | 16, _, W => by kernel_rfl
  | 17, _, W => by kernel_rfl
  | 18, _, W => by kernel_rfl
  | 19, _, W => by kernel_rfl
  | 20, _, W => by kernel_rfl
  | 21, _, W => by kernel_rfl
  | 22, _, W => by kernel_rfl
  | 23, _, W => by kernel_rfl
  | k + 24, h, _ => absurd h (by omega)
theorem Tryd.infoTab : (Tryd.prog.info? 81).map (·.size) = some tabArr.size := by kernel_rfl
theorem all_succ {P : Nat → Prop} {k : Nat} (h : ∀ i, i < k → P i) (hk : P k) : ∀ i, i < k + 1 → P i := fun i hi => by
  by_cases hik : i = k
  · subst hik; exact hk
  · exact h i (by omega)
/-- The op of a name: the first row that has it. -/
def opFind (nm : ByteArray) : Option Nat := (List.range 24).find? fun i => (opName i).toList == nm.toList
def opAt (nm : ByteArray) : Int := ((opFind nm).getD 0 : Nat)
def opIs (nm : ByteArray) : Bool := (opFind nm).isSome
theorem find_yes (nm : ByteArray) (k : Nat) (hk : k < 24) (he : ((opName k).toList == nm.toList) = true) (hno : ∀ i : Nat, i < k → ((opName i).toList == nm.toList) = false) : opFind nm = some k := by
  unfold opFind
  rw [List.find?_range_eq_some]
  exact ⟨he, by simpa using hk, fun j hj => by rw [hno j hj]; rfl⟩
theorem find_no (nm : ByteArray) (hno : ∀ i : Nat, i < 24 → ((opName i).toList == nm.toList) = false) : opFind nm = none := by
  unfold opFind
  rw [List.find?_range_eq_none]
  exact fun i hi => by rw [hno i hi]; rfl
set_option maxHeartbeats 1000000 in
theorem isaOp_any (nm : ByteArray) (w : World) (hT : Tab w) : Calls Tryd.prog 46 #[.string nm] w fun e w' => e = .returned (.tuple #[.int .i64 (opAt nm), .bool (opIs nm)]) ∧ Below w.heap.size w w' := by
  obtain ⟨tt, fr, hh⟩ := hT
  have HH := Lib.hid hh
  clear hh
  go_enter Tryd.func46, Tryd.ntmps46
  go_wp2_with (refine wpList_load_row rfl 81 _ rfl 0 rfl tt tabArr fr _ HH.out Tryd.underlying81 rfl Tryd.infoTab ?_)
  go_loopw [7] (fun vi wr => ∃ k : Nat, k ≤ 24 ∧ vi = .int .i64 k ∧ (∀ i : Nat, i < k → ((opName i).toList == nm.toList) = false) ∧ Below w.heap.size w wr) (fun vi _ => 24 - (intOf vi).toNat)
  case atStart => exact ⟨0, by omega, rfl, fun i hi => by omega, Below.refl _ _⟩
  case round =>
    obtain ⟨k, hk, rfl, hno, hb⟩ := hrel
    have HN := Lib.hid hno
    clear hno
    by_cases hlt : k < 24
    · have hix := tab_index k hlt
      by_cases he : ((opName k).toList == nm.toList) = true
      · have hf := find_yes nm k hlt he HN.out
        have e1 : opAt nm = k := by simp [opAt, hf]
        have e2 : opIs nm = true := by simp [opIs, hf]
        have E1 := Lib.hid e1
        have E2 := Lib.hid e2
        clear hf e1 e2
        go_wp2_with fail
        go_ret2
        exact ⟨by rw [E1.out, E2.out]; rfl, hb.alloc hb.size _⟩
      · have he' : ((opName k).toList == nm.toList) = false := by simpa using he
        have HE := Lib.hid he'
        clear he
        go_wp2_with fail
        go_roundw
        case rel => exact ⟨k + 1, by omega, by go_num, all_succ HN.out HE.out, hb.alloc hb.size _⟩
        case measure => simp [intOf]; omega
    · have hk24 : k = 24 := by omega
      have hf := find_no nm (fun i hi => HN.out i (by omega))
      have e1 : opAt nm = 0 := by simp [opAt, hf]
      have e2 : opIs nm = false := by simp [opIs, hf]
      have E1 := Lib.hid e1
      have E2 := Lib.hid e2
      clear hf e1 e2 hk24
      go_wp2_with fail
      go_ret2
      exact ⟨by rw [E1.out, E2.out]; rfl, hb⟩
end Go.Proofs.YtlkmpafendggiaaDoor

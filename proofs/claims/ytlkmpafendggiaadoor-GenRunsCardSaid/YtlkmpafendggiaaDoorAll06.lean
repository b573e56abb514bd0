/-
  Contract of isa.All.
-/
import Derived.Test.YtlkmpafendggiaaDoorRows
import Derived.Test.YtlkmpafendggiaaDoorOwn
import Derived.WalkSpells
import Derived.WalkLawsBesides
namespace Go.Proofs.YtlkmpafendggiaaDoor
open Go.RowKit
theorem Tryd.info3 : (Tryd.prog.info? 3).map (fun i => (i.zero, i.size, i.bytes)) = some (some (.int .i64 0), 1, 8) := by kernel_rfl
theorem ints_snoc (l : List Int) (x : Int) : ints (l ++ [x]) = ints l ++ [.int .i64 x] := by simp [ints]
/-- The first k ops. -/
def opsL (k : Nat) : List Int := (List.range k).map fun i : Nat => (i : Int)
theorem opsL_succ (k : Nat) : opsL (k + 1) = opsL k ++ [(k : Int)] := by simp [opsL, List.range_succ]
theorem opsL_len (k : Nat) : (opsL k).length = k := by simp [opsL]
def AllIs (w' : World) (e : Ending) : Prop := ∃ (A : Option Addr) (c : Nat), e = .returned (.slice A 24 c) ∧ Row w' w'.heap.size A (ints (opsL 24))
set_option maxRecDepth 100000 in
set_option maxHeartbeats 1000000 in
theorem all_any (w : World) : Calls Tryd.prog 61 #[] w fun e w' => AllIs w' e ∧ Below w.heap.size w w' := by
  obtain ⟨i0, hi, hz0, hz1, hz2⟩ := info_parts Tryd.info3
  have HI := Lib.hid hi
  have HZ0 := Lib.hid hz0
  have HZ1 := Lib.hid hz1
  have HZ2 := Lib.hid hz2
  clear hi hz0 hz1 hz2
  go_enter Tryd.func61, Tryd.ntmps61
  go_wp2_with fail
  go_loopw [0, 2] (fun vs vi wr => ∃ (k : Nat) (A : Option Addr) (c : Nat), k ≤ 24 ∧ vi = .int .i64 k ∧ vs = .slice A k c ∧ Below w.heap.size w wr ∧ Own wr w.heap.size 3 1 A k c (ints (opsL k))) (fun _ vi _ => 24 - (intOf vi).toNat)
  case atStart => exact ⟨0, none, 0, by omega, rfl, rfl, Below.refl _ _, Own.nil _ _ _ _⟩
  case round =>
    obtain ⟨k, A, c, hk, rfl, rfl, hb, ho⟩ := hrel
    have HO := Lib.hid ho
    clear ho
    by_cases hlt : k < 24
    · have c1 : Hid (k + 1 ≤ maxLen) := by unfold maxLen; show _ ≤ _; omega
      go_wp2_with (at_builtin; refine wpList_append_1 _ rfl (.tmp 5) (.tmp 7) 45 rfl w.heap.size 3 i0 (.int .i64 0) 1 8 Tryd.underlying45 HI.out HZ0.out HZ1.out HZ2.out rfl (by decide) _ _ _ _ rfl (HO.out.alloc _) ⟨wr.heap.size, 0, none⟩ 1 [.int .i64 k] rfl rfl (cell_one_new _ _ _) (by simp [Value.oneCell']) c1.out (by omega) (by have := hb.size; simp; omega) ?_; intro A' c' w1 hown1 hgrow1 hat1)
      refine ⟨⟨k + 1, A', c', by omega, by go_num, rfl, below_append hb HO.out (by omega) hb.size hgrow1, ?_⟩, by simp [intOf]; omega⟩
      rw [opsL_succ, ints_snoc]
      exact hown1
    · have hk24 : k = 24 := by omega
      have HK := Lib.hid hk24
      clear hk24
      go_wp2_with fail
      go_ret
      refine ⟨⟨A, c, ?_, ?_⟩, hb⟩
      · rw [HK.out]; rfl
      · have := HO.out.row
        rw [HK.out] at this
        exact this
end Go.Proofs.YtlkmpafendggiaaDoor

/-
  Chapter 33: dice. Contracts of gen.New, Next, Below and of the reference's. Condition: the dice lie in memory.
-/
import Derived.Test.YtlkmpafendggiaaDoorRows
import Derived.Test.YtlkmpafendggiaaDoorBlk
import Derived.Test.YtlkmpafendggiaaDoorMem
import Derived.Test.YtlkmpafendggiaaDoorOwn
import Derived.WalkSpells
import Derived.WalkLawsBesides
import Derived.Deep.QuietTactic
import Derived.BigQuiet
import Derived.OwnWalk
import Derived.IntWalk
namespace Go.Proofs.YtlkmpafendggiaaDoor
open Go.RowKit
/-- The next number, and what is told of it. -/
def lcg (x : Int) : Int := IntKind.u64.wrap (IntKind.u64.wrap (x * 6364136223846793005) + 1442695040888963407)
def told (x : Int) : Int := lcg x / 8589934592
def bnext (x n : Int) : Int := if n < 1 then x else lcg x
def below (x n : Int) : Int := if n < 1 then 0 else told x % n
theorem lcg_le (x : Int) : 0 ≤ lcg x ∧ lcg x ≤ 18446744073709551615 := by
  unfold lcg
  rw [IntKind.wrap_u64]
  omega
theorem told_le (x : Int) : 0 ≤ told x ∧ told x ≤ 2147483647 := by
  have := lcg_le x
  unfold told
  omega
theorem bnext_neg {x n : Int} (h : n < 1) : bnext x n = x := by unfold bnext; rw [if_pos h]
theorem bnext_pos {x n : Int} (h : ¬ n < 1) : bnext x n = lcg x := by unfold bnext; rw [if_neg h]
theorem below_neg {x n : Int} (h : n < 1) : below x n = 0 := by unfold below; rw [if_pos h]
theorem below_pos {x n : Int} (h : ¬ n < 1) : below x n = told x % n := by unfold below; rw [if_neg h]
theorem mod_le (t n : Int) (h : 1 ≤ n) (hn : n ≤ 9223372036854775807) : 0 ≤ t % n ∧ t % n ≤ 9223372036854775806 := ⟨Int.emod_nonneg _ (by omega), by have := Int.emod_lt_of_pos t (show 0 < n by omega); omega⟩
theorem below_drewN (w : World) (n : Nat) : Below w.heap.size w (w.drewN n) := ⟨rfl, rfl, rfl, Nat.le_refl _, fun _ _ => rfl⟩
/-- The dice were thrown: they hold y now, and nothing else is other than it was. -/
def Thrown (w w' : World) (g : Nat) (y : Int) : Prop := w.grownBy w' (some g) ∧ Blk w' g 73 #[.int .u64 y] ∧ w'.heap.size = w.heap.size
theorem dnew_any (x : Int) (w : World) : Calls Tryd.prog 34 #[.int .u64 x] w fun e w' => e = .returned (.pointer (some ⟨w.heap.size, 0, none⟩)) ∧ w' = w.alloc (.cells #[.int .u64 x] 73) := by
  go_enter Tryd.func34, Tryd.ntmps34
  go_wp2
  go_ret
  exact ⟨rfl, rfl⟩
theorem dnext_any (g : Nat) (x : Int) (w : World) (hb : Blk w g 73 #[.int .u64 x]) : Calls Tryd.prog 38 #[.pointer (some ⟨g, 0, none⟩)] w fun e w' => e = .returned (.int .u64 (told x)) ∧ Thrown w w' g (lcg x) := by
  have h0 := hb.cell 0
  have h1 := hb.frozen 0
  have h2 := hb.lt
  simp at h0
  have HB := Lib.hid hb
  clear hb
  go_enter Tryd.func38, Tryd.ntmps38
  go_wp2
  go_ret
  refine ⟨rfl, grown_set _ _ _, ?_, by simp [World.setCell]⟩
  have h : Blk (w.setCell ⟨g, 0, none⟩ (.int .u64 (lcg x))) g 73 #[.int .u64 (lcg x)] := by simpa using HB.out.set_ 0 (.int .u64 (lcg x))
  exact h
theorem dnext_nil (w : World) : Calls Tryd.prog 38 #[.pointer none] w fun e w' => e = .returned (.int .u64 0) ∧ w = w' := by
  go_enter Tryd.func38, Tryd.ntmps38
  go_wp2
  go_ret
  exact ⟨rfl, rfl⟩
theorem dbelow_any (g : Nat) (x n : Int) (w : World) (hn : I64 n) (hb : Blk w g 73 #[.int .u64 x]) : Calls Tryd.prog 36 #[.pointer (some ⟨g, 0, none⟩), .int .i64 n] w fun e w' => e = .returned (.int .i64 (below x n)) ∧ Thrown w w' g (bnext x n) := by
  obtain ⟨hn1, hn2⟩ := hn
  have HB := Lib.hid hb
  clear hb
  by_cases h : n < 1
  · rw [below_neg h, bnext_neg h]
    go_enter Tryd.func36, Tryd.ntmps36
    go_wp2_with fail
    go_ret
    exact ⟨rfl, ⟨rfl, rfl, rfl, Nat.le_refl _, fun _ _ _ => rfl⟩, HB.out, rfl⟩
  · rw [below_pos h, bnext_pos h]
    have h' : 1 ≤ n := by omega
    clear h
    go_enter Tryd.func36, Tryd.ntmps36
    go_wp2_with fail
    refine (dnext_any g x w HB.out).mono ?_
    rintro e w1 ⟨rfl, ht⟩
    have HT := Lib.hid ht
    clear ht
    obtain ⟨t1, t2⟩ := told_le x
    obtain ⟨q1, q2⟩ := mod_le (told x) n h' hn2
    go_wp2_with fail
    go_ret
    exact ⟨by simp, HT.out⟩
theorem dbelow_nil (n : Int) (hn : I64 n) (w : World) : Calls Tryd.prog 36 #[.pointer none, .int .i64 n] w fun e w' => e = .returned (.int .i64 0) ∧ w = w' := by
  obtain ⟨hn1, hn2⟩ := hn
  by_cases h : n < 1
  · go_enter Tryd.func36, Tryd.ntmps36
    go_wp2_with fail
    go_ret
    exact ⟨rfl, rfl⟩
  · have h' : 1 ≤ n := by omega
    clear h
    go_enter Tryd.func36, Tryd.ntmps36
    go_wp2_with fail
    refine (dnext_nil w).mono ?_
    rintro e w1 ⟨rfl, rfl⟩
    go_wp2_with fail
    go_ret
    exact ⟨by simp, rfl⟩
theorem rnext_any (x : Int) (w : World) : Calls Tryd.prog 37 #[.int .u64 x] w fun e w' => e = .returned (.tuple #[.int .u64 (lcg x), .int .u64 (told x)]) ∧ w = w' := by
  go_enter Tryd.func37, Tryd.ntmps37
  go_wp2_with fail
  go_ret2
  exact ⟨rfl, rfl⟩
theorem rbelow_any (x n : Int) (hn : I64 n) (w : World) : Calls Tryd.prog 35 #[.int .u64 x, .int .i64 n] w fun e w' => e = .returned (.tuple #[.int .u64 (bnext x n), .int .i64 (below x n)]) ∧ Below w.heap.size w w' := by
  obtain ⟨hn1, hn2⟩ := hn
  by_cases h : n < 1
  · rw [below_neg h, bnext_neg h]
    go_enter Tryd.func35, Tryd.ntmps35
    go_wp2_with fail
    go_ret2
    exact ⟨rfl, Below.refl _ _⟩
  · rw [below_pos h, bnext_pos h]
    have h' : 1 ≤ n := by omega
    clear h
    go_enter Tryd.func35, Tryd.ntmps35
    go_wp2_with fail
    refine (rnext_any x w).mono ?_
    rintro e w1 ⟨rfl, rfl⟩
    obtain ⟨t1, t2⟩ := told_le x
    obtain ⟨q1, q2⟩ := mod_le (told x) n h' hn2
    have hw : IntKind.u64.wrap n = n := by rw [IntKind.wrap_u64]; omega
    have hw2 : IntKind.i64.wrap (told x % n) = told x % n := IntWalk.i64_in _ (by omega)
    have hz : (n == 0) = false := by simp; omega
    have ht : (told x).tmod n = told x % n := Int.tmod_eq_emod_of_nonneg t1
    go_wp2_with fail
    go_quiet (fail)
    go_wp2_with fail
    go_ret2
    exact ⟨by simp, below_drewN _ _⟩
end Go.Proofs.YtlkmpafendggiaaDoor

/-
  Contracts of chapter 9: safe, place, fn, Check, and the reference's. Conditions: the table is laid where the code reads it; the function lies in memory.
-/
import Derived.Test.YtfgaonkoaolffaaDoorFns
import Derived.Test.YtfgaonkoaolffaaDoorRef06b
import Derived.Test.YtfgaonkoaolffaaDoorCalm
import Derived.WalkSpells
import Derived.WalkLawsBesides
namespace Go.Proofs.YtfgaonkoaolffaaDoor
open Go.RowKit
/-- Is a place safe? -/
def safeB (ss : List Bool) (pc : Int) : Bool := decide (0 ≤ pc) && ss.getD pc.toNat false
/-- May a thread be stopped there? -/
def stopsB (n : Nat) (ss : List Bool) (pc : Int) : Bool := decide (0 ≤ pc ∧ pc < n) && (pc == 0 || safeB ss pc)
theorem safe_any (f : FuncId) (hf : f = 54 ∨ f = 32) (A B : Option Addr) (n m c d : Nat) (ss : List Bool) (pc : Int) (w : World) (hl : ss.length = m) (_hm : m ≤ maxLen) (hr : Row w w.heap.size B (boolVals ss)) :
    Calls Tryd.prog f #[.agg #[.slice A n c, .slice B m d], .int .i64 pc] w fun e w' => e = .returned (.bool (safeB ss pc)) ∧ Below w.heap.size w w' := by
  unfold maxLen at _hm
  by_cases h0 : 0 ≤ pc
  · obtain ⟨k, rfl⟩ := Int.eq_ofNat_of_zero_le h0
    by_cases h1 : k < m
    · obtain ⟨b, off, rfl, hb, hc⟩ := hr.at_ (k := k) (by simp [boolVals]; omega)
      have hc0 := hc k _ (boolVals_at ss k (by omega))
      have e : safeB ss k = ss[k]'(by omega) := by simp [safeB, show k < ss.length by omega]
      rw [e]; clear e hc hr
      generalize ss[k]'(by omega) = x at *
      have hne : b ≠ w.heap.size := by omega
      have hcw : ∀ o, (w.alloc o).cell? ⟨b, off + k, none⟩ = some (.bool x) := fun o => by rw [World.cell?_alloc_lt w o _ hb]; exact hc0
      clear hl hc0
      rcases hf with rfl | rfl
      · go_enter Tryd.func54, Tryd.ntmps54
        go_wp2
        go_ret
        exact ⟨rfl, (Below.refl _ _).alloc (Nat.le_refl _) _⟩
      · go_enter Tryd.func32, Tryd.ntmps32
        go_wp2
        go_ret
        exact ⟨rfl, (Below.refl _ _).alloc (Nat.le_refl _) _⟩
    · have e : safeB ss k = false := by simp [safeB, show ¬ k < ss.length by omega]
      have h1' : decide ((k : Int) < m) = false := by simp; omega
      rw [e]; clear e hr hl
      rcases hf with rfl | rfl
      · go_enter Tryd.func54, Tryd.ntmps54
        go_wp2
        go_ret
        exact ⟨rfl, (Below.refl _ _).alloc (Nat.le_refl _) _⟩
      · go_enter Tryd.func32, Tryd.ntmps32
        go_wp2
        go_ret
        exact ⟨rfl, (Below.refl _ _).alloc (Nat.le_refl _) _⟩
  · have e : safeB ss pc = false := by simp [safeB, h0]
    have h0' : decide (0 ≤ pc) = false := by simpa using h0
    rw [e]; clear e hr hl
    rcases hf with rfl | rfl
    · go_enter Tryd.func54, Tryd.ntmps54
      go_wp2
      go_ret
      exact ⟨rfl, (Below.refl _ _).alloc (Nat.le_refl _) _⟩
    · go_enter Tryd.func32, Tryd.ntmps32
      go_wp2
      go_ret
      exact ⟨rfl, (Below.refl _ _).alloc (Nat.le_refl _) _⟩
/-- Why a place is wrong. -/
def placeF (i : Ins) (n : Nat) (ss : List Bool) (k : Nat) (funcs : Int) : Int :=
  if checkF i.op i.a i.b i.c i.n n funcs ≠ 0 then checkF i.op i.a i.b i.c i.n n funcs
  else if opWaits i.op && !(safeB ss k && safeB ss (k + 1)) then 10 else 0
end Go.Proofs.YtfgaonkoaolffaaDoor

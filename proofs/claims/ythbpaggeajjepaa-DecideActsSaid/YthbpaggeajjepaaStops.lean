/-
  Contracts of valid.safe, valid.Prologue, valid.Stops and of the reference's. The function's value is a pair of slices; of its code only the length matters here.
-/
import Derived.Test.YthbpaggeajjepaaRows
import Derived.Test.YthbpaggeajjepaaMem
import Derived.Test.YthbpaggeajjepaaCalm
import Derived.WalkSpells
import Derived.WalkLawsBesides
namespace Go.Proofs.Ythbpaggeajjepaa
open Go.RowKit
def bools (ss : List Bool) : List Value := ss.map Value.bool
theorem bools_at_ (ss : List Bool) (k : Nat) (h : k < ss.length) : (bools ss)[k]? = some (.bool ss[k]) := by simp [bools, h]
/-- Is a place safe? -/
def safeB (ss : List Bool) (pc : Int) : Bool := decide (0 ≤ pc) && ss.getD pc.toNat false
/-- May a thread be stopped there? -/
def stopsB (n : Nat) (ss : List Bool) (pc : Int) : Bool := decide (0 ≤ pc ∧ pc < n) && (pc == 0 || safeB ss pc)
theorem safe_any (f : FuncId) (hf : f = 59 ∨ f = 60) (A B : Option Addr) (n m c d : Nat) (ss : List Bool) (pc : Int) (w : World) (hl : ss.length = m) (_hm : m ≤ maxLen) (hr : Row w w.heap.size B (bools ss)) :
    Calls Try.prog f #[.agg #[.slice A n c, .slice B m d], .int .i64 pc] w fun e w' => e = .returned (.bool (safeB ss pc)) ∧ Below w.heap.size w w' := by
  unfold maxLen at _hm
  by_cases h0 : 0 ≤ pc
  · obtain ⟨k, rfl⟩ := Int.eq_ofNat_of_zero_le h0
    by_cases h1 : k < m
    · obtain ⟨b, off, rfl, hb, hc⟩ := hr.at_ (k := k) (by simp [bools]; omega)
      have hc0 := hc k _ (bools_at_ ss k (by omega))
      have e : safeB ss k = ss[k]'(by omega) := by simp [safeB, show k < ss.length by omega]
      rw [e]; clear e hc hr
      generalize ss[k]'(by omega) = x at *
      have hne : b ≠ w.heap.size := by omega
      have hcw : ∀ o, (w.alloc o).cell? ⟨b, off + k, none⟩ = some (.bool x) := fun o => by rw [World.cell?_alloc_lt w o _ hb]; exact hc0
      clear hl hc0
      rcases hf with rfl | rfl
      · go_enter Try.func59, Try.ntmps59
        go_wp2
        go_ret
        exact ⟨rfl, (Below.refl _ _).alloc (Nat.le_refl _) _⟩
      · go_enter Try.func60, Try.ntmps60
        go_wp2
        go_ret
        exact ⟨rfl, (Below.refl _ _).alloc (Nat.le_refl _) _⟩
    · have e : safeB ss k = false := by simp [safeB, show ¬ k < ss.length by omega]
      have h1' : decide ((k : Int) < m) = false := by simp; omega
      rw [e]; clear e hr hl
      rcases hf with rfl | rfl
      · go_enter Try.func59, Try.ntmps59
        go_wp2
        go_ret
        exact ⟨rfl, (Below.refl _ _).alloc (Nat.le_refl _) _⟩
      · go_enter Try.func60, Try.ntmps60
        go_wp2
        go_ret
        exact ⟨rfl, (Below.refl _ _).alloc (Nat.le_refl _) _⟩
  · have e : safeB ss pc = false := by simp [safeB, h0]
    have h0' : decide (0 ≤ pc) = false := by simpa using h0
    rw [e]; clear e hr hl
    rcases hf with rfl | rfl
    · go_enter Try.func59, Try.ntmps59
      go_wp2
      go_ret
      exact ⟨rfl, (Below.refl _ _).alloc (Nat.le_refl _) _⟩
    · go_enter Try.func60, Try.ntmps60
      go_wp2
      go_ret
      exact ⟨rfl, (Below.refl _ _).alloc (Nat.le_refl _) _⟩
theorem bcell {W w1 : World} (hb : Below W.heap.size W w1) : (∀ b o, b < W.heap.size → w1.cell? ⟨b, o, none⟩ = W.cell? ⟨b, o, none⟩) ∧ (∀ b o, b < W.heap.size → w1.frozen? ⟨b, o, none⟩ = W.frozen? ⟨b, o, none⟩) :=
  ⟨fun b o h => hb.cell (p := ⟨b, o, none⟩) h, fun b o h => hb.frozen (p := ⟨b, o, none⟩) h⟩
def proB (n : Nat) (pc : Int) : Bool := pc == 0 && decide (0 < n)
theorem pro_any (A B : Option Addr) (n m c d : Nat) (pc : Int) (w : World) :
    Calls Try.prog 47 #[.agg #[.slice A n c, .slice B m d], .int .i64 pc] w fun e w' => e = .returned (.bool (proB n pc)) ∧ Below w.heap.size w w' := by
  by_cases h : pc = 0
  · subst h
    have e : proB n 0 = decide (0 < n) := by simp [proB]
    rw [e]; clear e
    go_enter Try.func47, Try.ntmps47
    go_wp2
    go_ret
    exact ⟨by simp, (Below.refl _ _).alloc (Nat.le_refl _) _⟩
  · have e : proB n pc = false := by simp [proB, h]
    have h' : (pc == 0) = false := by simpa using h
    rw [e]; clear e h
    go_enter Try.func47, Try.ntmps47
    go_wp2
    go_ret
    exact ⟨by simp, (Below.refl _ _).alloc (Nat.le_refl _) _⟩
theorem stops_any (A B : Option Addr) (n m c d : Nat) (ss : List Bool) (pc : Int) (w : World) (hl : ss.length = m) (_hn : n ≤ maxLen) (hm : m ≤ maxLen) (hr : Row w w.heap.size B (bools ss)) :
    Calls Try.prog 48 #[.agg #[.slice A n c, .slice B m d], .int .i64 pc] w fun e w' => e = .returned (.bool (stopsB n ss pc)) ∧ Below w.heap.size w w' := by
  have HM := Lib.hid hm
  have HL := Lib.hid hl
  have HR := Lib.hid hr
  unfold maxLen at _hn
  clear hm hl hr
  have hB : Below w.heap.size w (w.alloc (.cells #[.slice A n c, .slice B m d] 35)) := (Below.refl _ _).alloc (Nat.le_refl _) _
  by_cases hp : proB n pc = true
  · have e : stopsB n ss pc = true := by simp [proB] at hp; simp [stopsB, hp]
    rw [e]; clear e
    go_enter Try.func48, Try.ntmps48
    go_wp2_with (go_at_call 47; refine (pro_any _ _ _ _ _ _ _ _).mono ?_; rintro e w1 ⟨rfl, hb1⟩; obtain ⟨hc1, hf1⟩ := bcell hb1)
    go_ret
    exact ⟨by simp, hB.trans (hb1.mono (by simp))⟩
  · have hp : proB n pc = false := by simpa using hp
    by_cases hlt : pc < n
    · have e : stopsB n ss pc = safeB ss pc := by
        simp [proB] at hp
        by_cases h0 : 0 ≤ pc
        · by_cases h00 : pc = 0
          · have := hp h00; omega
          · simp [stopsB, h0, hlt, h00]
        · simp [stopsB, safeB, h0]
      rw [e]; clear e
      go_enter Try.func48, Try.ntmps48
      go_wp2_with (first | (go_at_call 47; refine (pro_any _ _ _ _ _ _ _ _).mono ?_; rintro e w1 ⟨rfl, hb1⟩; obtain ⟨hc1, hf1⟩ := bcell hb1; have HB1 := Lib.hid (hB.trans (hb1.mono (by simp)))) | (go_at_call 59; refine (safe_any _ (.inl rfl) _ _ _ _ _ _ ss _ _ HL.out HM.out ((HR.out.below HB1.out).more HB1.out.size)).mono ?_; rintro e w2 ⟨rfl, hb2⟩))
      go_ret
      exact ⟨by simp, HB1.out.trans (hb2.mono HB1.out.size)⟩
    · have e : stopsB n ss pc = false := by simp [stopsB]; omega
      have hlt' : decide (pc < n) = false := by simpa using hlt
      rw [e]; clear e
      go_enter Try.func48, Try.ntmps48
      go_wp2_with (first | (go_at_call 47; refine (pro_any _ _ _ _ _ _ _ _).mono ?_; rintro e w1 ⟨rfl, hb1⟩; obtain ⟨hc1, hf1⟩ := bcell hb1; have HB1 := Lib.hid (hB.trans (hb1.mono (by simp)))))
      go_ret
      exact ⟨by simp, HB1.out⟩
theorem rstops_any (A B : Option Addr) (n m c d : Nat) (ss : List Bool) (pc : Int) (w : World) (hl : ss.length = m) (_hn : n ≤ maxLen) (hm : m ≤ maxLen) (hr : Row w w.heap.size B (bools ss)) :
    Calls Try.prog 49 #[.agg #[.slice A n c, .slice B m d], .int .i64 pc] w fun e w' => e = .returned (.bool (stopsB n ss pc)) ∧ Below w.heap.size w w' := by
  have HM := Lib.hid hm
  have HL := Lib.hid hl
  have HR := Lib.hid hr
  unfold maxLen at _hn
  clear hm hl hr
  have hB : Below w.heap.size w (w.alloc (.cells #[.slice A n c, .slice B m d] 35)) := (Below.refl _ _).alloc (Nat.le_refl _) _
  by_cases h0 : 0 ≤ pc
  · by_cases hlt : pc < n
    · by_cases hz : pc = 0
      · have e : stopsB n ss pc = true := by simp [stopsB, hz]; omega
        have hz' : (pc == 0) = true := by simpa using hz
        rw [e]; clear e hz
        go_enter Try.func49, Try.ntmps49
        go_wp2_with fail
        go_ret
        exact ⟨rfl, hB⟩
      · have e : stopsB n ss pc = safeB ss pc := by simp [stopsB, h0, hlt, hz]
        have hz' : (pc == 0) = false := by simpa using hz
        rw [e]; clear e hz
        go_enter Try.func49, Try.ntmps49
        go_wp2_with (go_at_call 60; refine (safe_any _ (.inr rfl) _ _ _ _ _ _ ss _ _ HL.out HM.out ((HR.out.below hB).more hB.size)).mono ?_; rintro e w2 ⟨rfl, hb2⟩)
        go_ret
        exact ⟨rfl, hB.trans (hb2.mono hB.size)⟩
    · have e : stopsB n ss pc = false := by simp [stopsB]; omega
      have hlt' : decide (pc < n) = false := by simpa using hlt
      rw [e]; clear e
      go_enter Try.func49, Try.ntmps49
      go_wp2_with fail
      go_ret
      exact ⟨rfl, hB⟩
  · have e : stopsB n ss pc = false := by simp [stopsB]; omega
    have h0' : decide (0 ≤ pc) = false := by simpa using h0
    rw [e]; clear e
    go_enter Try.func49, Try.ntmps49
    go_wp2_with fail
    go_ret
    exact ⟨rfl, hB⟩
end Go.Proofs.Ythbpaggeajjepaa

/-
  Chapter 5: maps of places in memory: words of 64 bits. Contracts of Len, Has. Condition: the map lies in memory.
-/
import Derived.Test.YthcbceaeobnmgaaDoorRows
import Derived.Test.YthcbceaeobnmgaaDoorOwn
import Derived.Test.YthcbceaeobnmgaaDoorMix
import Derived.Laws.Bits64b
import Derived.Deep.DeepMust
import Derived.WalkSpells
import Derived.WalkLawsBesides
namespace Go.Proofs.YthcbceaeobnmgaaDoor
open Go.RowKit
/-- The words of some truths. -/
def WordsOk (ws : List Nat) (bs : List Bool) : Prop := ws.length = (bs.length + 63) / 64 ∧ ∀ j (h : j < ws.length), ws[j] < 18446744073709551616 ∧ ∀ b, b < 64 → ws[j].testBit b = bs.getD (64 * j + b) false
def wordVals (ws : List Nat) : List Value := ws.map fun x : Nat => .int .u64 x
/-- A map in memory. -/
structure Bm (w : World) (g gw : Nat) (ws : List Nat) (bs : List Bool) : Prop where
  ok : WordsOk ws bs
  blk : Blk w g 73 #[.int .i64 bs.length, .slice (some ⟨gw, 0, none⟩) ws.length ws.length]
  row : Blk w gw 50 (wordVals ws).toArray
  ne : g ≠ gw
  small : bs.length ≤ 4096
theorem len_any {w : World} {g gw : Nat} {ws : List Nat} {bs : List Bool} (M : Bm w g gw ws bs) : Calls Tryd.prog 53 #[.pointer (some ⟨g, 0, none⟩)] w fun e w' => e = .returned (.int .i64 bs.length) ∧ w = w' := by
  have h0 := M.blk.cell 0
  simp at h0
  clear M
  go_enter Tryd.func53, Tryd.ntmps53
  go_wp2
  go_ret
  exact ⟨rfl, rfl⟩
theorem len_nil (w : World) : Calls Tryd.prog 53 #[.pointer none] w fun e w' => e = .returned (.int .i64 0) ∧ w = w' := by
  go_enter Tryd.func53, Tryd.ntmps53
  go_wp2
  go_ret
  exact ⟨rfl, rfl⟩
/-- Two cells, and what they hold. -/
def Cel2 (p0 p1 : Addr) (v0 v1 : Value) (w : World) : Prop := w.cell? p0 = some v0 ∧ w.cell? p1 = some v1
def hasB (bs : List Bool) (i : Int) : Bool := decide (0 ≤ i) && bs.getD i.toNat false
theorem and_one (y : Nat) : y &&& 1 = y % 2 := Nat.and_one_is_mod y
/-- One bit of a word, as the code asks for it. -/
theorem bit_at (x b : Nat) (hx : x < 18446744073709551616) : (bits .and .u64 ((x : Int) / 2 ^ b) 1 == 1) = x.testBit b := by
  have e : ((x : Int) / 2 ^ b) = ((x / 2 ^ b : Nat) : Int) := by simp
  have hlt : x / 2 ^ b < 18446744073709551616 := Nat.lt_of_le_of_lt (Nat.div_le_self _ _) hx
  rw [e, show (1 : Int) = ((1 : Nat) : Int) from rfl, bits_and_u64_nat _ 1 hlt (by omega), and_one]
  rw [Nat.testBit_eq_decide_div_mod_eq]
  have : x / 2 ^ b % 2 = 0 ∨ x / 2 ^ b % 2 = 1 := by omega
  rcases this with h | h <;> simp [h]
set_option maxHeartbeats 1000000 in
theorem has_any {w : World} {g gw : Nat} {ws : List Nat} {bs : List Bool} (i : Int) (M : Bm w g gw ws bs) : Calls Tryd.prog 57 #[.pointer (some ⟨g, 0, none⟩), .int .i64 i] w fun e w' => e = .returned (.bool (hasB bs i)) ∧ w = w' := by
  have HM := Lib.hid M
  have hsm := M.small
  have h0 := M.blk.cell 0
  have h1 := M.blk.cell 1
  simp at h0 h1
  have hwl : ws.length = (bs.length + 63) / 64 := M.ok.1
  by_cases hi : 0 ≤ i ∧ i < bs.length
  · obtain ⟨hi0, hi1⟩ := hi
    obtain ⟨k, rfl⟩ := Int.eq_ofNat_of_zero_le hi0
    have hk : k < bs.length := by omega
    have hq : k / 64 < ws.length := by omega
    have hc : w.cell? ⟨gw, k / 64, none⟩ = some (.int .u64 (ws[k / 64] : Nat)) := by
      rw [M.row.cell]; simp [wordVals, hq]
    obtain ⟨hlt, hbit⟩ := M.ok.2 (k / 64) hq
    generalize ws[k / 64] = x at *
    have HB := Lib.hid hbit
    have HWL := Lib.hid hwl
    generalize hnn : ws.length = nw at *
    generalize hnb : bs.length = n at *
    have HNN := Lib.hid hnn
    have HNB := Lib.hid hnb
    clear M hbit hwl hnn hnb
    go_enter Tryd.func57, Tryd.ntmps57
    go_wp2_with (go_at_call 53; go_must (have hl := len_any HM.out; rw [HNB.out] at hl; refine hl.mono ?_; rintro e w1 ⟨rfl, rfl⟩; clear hl))
    go_ret
    refine ⟨?_, rfl⟩
    simp
    rw [bit_at x (k % 64) hlt, HB.out (k % 64) (by omega)]
    have e : 64 * (k / 64) + k % 64 = k := by omega
    rw [e]
    simp [hasB]
  · have e : hasB bs i = false := by
      unfold hasB
      by_cases h0 : 0 ≤ i
      · have : bs.length ≤ i.toNat := by omega
        simp [this]
      · simp [h0]
    rw [e]
    clear e hwl h1 M
    by_cases h00 : 0 ≤ i
    · have hd : decide (i < (bs.length : Int)) = false := by simp; omega
      go_enter Tryd.func57, Tryd.ntmps57
      go_wp2_with (go_at_call 53; refine (len_any HM.out).mono ?_; rintro e w1 ⟨rfl, rfl⟩)
      go_ret
      exact ⟨by simp, rfl⟩
    · have hd : decide (0 ≤ i) = false := by simpa using h00
      go_enter Tryd.func57, Tryd.ntmps57
      go_wp2_with fail
      go_ret
      exact ⟨by simp, rfl⟩
end Go.Proofs.YthcbceaeobnmgaaDoor

/-
  The law SpreadWorlds as a contract.
-/
import Derived.Test.YtigbkihaclobgaaSpread
namespace Go.Proofs.Ytigbkihaclobgaa
open Go.RowKit
def wakeB (a b c : Int) : Bool := decide (0 < a) && decide (b ≤ 0) && decide (0 < c)
theorem wake_any (a b c : Int) (w : World) : Calls Try.prog 8 #[.int .i64 a, .int .i64 b, .int .i64 c] w fun e w' => e = .returned (.bool (wakeB a b c)) ∧ w = w' := by
  by_cases h0 : 0 < a
  · by_cases h1 : b ≤ 0
    · go_enter Try.func8, Try.ntmps8
      go_wp2
      go_ret
      exact ⟨by simp [wakeB, h0, h1], rfl⟩
    · have h1' : decide (b ≤ 0) = false := by simpa using h1
      go_enter Try.func8, Try.ntmps8
      go_wp2
      go_ret
      exact ⟨by simp [wakeB, h1'], rfl⟩
  · have h0' : decide (0 < a) = false := by simpa using h0
    go_enter Try.func8, Try.ntmps8
    go_wp2
    go_ret
    exact ⟨by simp [wakeB, h0'], rfl⟩
theorem row_lit {w : World} {g : Nat} {t : TypeId} {cs : Array Value} (h : Blk w g t cs) : Row w w.heap.size (some ⟨g, 0, none⟩) cs.toList :=
  .inr ⟨g, 0, rfl, h.lt, fun j u hu => by rw [Nat.zero_add, h.cell]; simpa using hu⟩
theorem row_new {w : World} {g : Nat} {t : TypeId} {cs : Array Value} (h : g = w.heap.size) : Row (w.alloc (.cells cs t)) (w.alloc (.cells cs t)).heap.size (some ⟨g, 0, none⟩) cs.toList := by
  subst h; exact row_lit (Blk.new w t cs)
theorem Row.step {w w' : World} {A : Option Addr} {xs : List Value} (h : Row w w.heap.size A xs) (hb : Below w.heap.size w w') : Row w' w'.heap.size A xs := (h.below hb).more hb.size
theorem Row.alloc {w : World} {A : Option Addr} {xs : List Value} (h : Row w w.heap.size A xs) (o : Obj) : Row (w.alloc o) (w.alloc o).heap.size A xs := h.step ((Below.refl _ _).alloc (Nat.le_refl _) _)
theorem bcell {W w1 : World} (hb : Below W.heap.size W w1) : (∀ b o, b < W.heap.size → w1.cell? ⟨b, o, none⟩ = W.cell? ⟨b, o, none⟩) ∧ (∀ b o, b < W.heap.size → w1.frozen? ⟨b, o, none⟩ = W.frozen? ⟨b, o, none⟩) :=
  ⟨fun b o h => hb.cell (p := ⟨b, o, none⟩) h, fun b o h => hb.frozen (p := ⟨b, o, none⟩) h⟩
set_option maxHeartbeats 2000000 in
theorem alive24 (w : World) : Calls Try.prog 4 #[] w fun e w' => e = .returned (.bool true) ∧ Below w.heap.size w w' := by
  have ep : planL [1, 0, 2] 0 1 3 = ([2], [1]) := by decide
  have EP := Lib.hid ep
  clear ep
  have e1 : wakeB 1 0 1 = true := by decide
  have e2 : wakeB 1 1 1 = false := by decide
  go_enter Try.func4, Try.ntmps4
  go_wp2_with fail
  have hq : Row (w.alloc (.cells #[.int .i64 1, .int .i64 0, .int .i64 2] 3)) (w.alloc (.cells #[.int .i64 1, .int .i64 0, .int .i64 2] 3)).heap.size (some ⟨w.heap.size, 0, none⟩) (ints [1, 0, 2]) := row_lit (Blk.new w 3 _)
  refine (world_any _ 3 3 [1, 0, 2] 0 1 _ rfl (by omega) ⟨by omega, by omega⟩ hq).mono ?_
  rintro e w1 ⟨⟨A1, B1, c1, d1, rfl, hrA, hrB⟩, hb1⟩
  rw [EP.out] at hrA hrB
  rw [EP.out]
  have hB0 : Below w.heap.size w (w.alloc (.cells #[.int .i64 1, .int .i64 0, .int .i64 2] 3)) := (Below.refl _ _).alloc (Nat.le_refl _) _
  have hB1 := hB0.trans (hb1.mono hB0.size)
  simp only [List.length_singleton]
  clear hq hb1 hB0
  go_wp2_with fail
  have rA := (hrA.alloc (.cells #[.slice A1 1 c1, .slice B1 1 d1] 25)).alloc (.cells #[.int .i64 2] 3)
  have rB := (hrB.alloc (.cells #[.slice A1 1 c1, .slice B1 1 d1] 25)).alloc (.cells #[.int .i64 2] 3)
  have r2 : Row ((w1.alloc (.cells #[.slice A1 1 c1, .slice B1 1 d1] 25)).alloc (.cells #[.int .i64 2] 3)) ((w1.alloc (.cells #[.slice A1 1 c1, .slice B1 1 d1] 25)).alloc (.cells #[.int .i64 2] 3)).heap.size (some ⟨w1.heap.size + 1, 0, none⟩) (ints [2]) := by
    exact row_new (by simp)
  refine (same_any _ _ 1 1 _ _ [2] [2] _ rfl rfl (by simp [maxLen]) (by simp [maxLen]) rA r2).mono ?_
  rintro e w2 ⟨rfl, hb2⟩
  have rB2 := rB.step hb2
  have hB2 : Below w.heap.size w w2 := by
    have h1 : Below w.heap.size w ((w1.alloc (.cells #[.slice A1 1 c1, .slice B1 1 d1] 25)).alloc (.cells #[.int .i64 2] 3)) := (hB1.alloc hB1.size _).alloc (by have := hB1.size; simp; omega) _
    exact h1.trans (hb2.mono h1.size)
  obtain ⟨hc2, hf2⟩ := bcell hb2
  have hz2 : w1.heap.size + 1 < w2.heap.size := by have := hb2.size; simp at this; omega
  clear rA rB r2 hb2 hrA hrB hB1
  rw [decide_eq_true (rfl : ([2] : List Int) = [2])]
  go_wp2_with fail
  have rB3 := rB2.alloc (.cells #[.int .i64 1] 3)
  refine (same_any _ _ 1 1 _ _ [1] [1] _ rfl rfl (by simp [maxLen]) (by simp [maxLen]) rB3 (row_lit (Blk.new w2 3 _))).mono ?_
  rintro e w3 ⟨rfl, hb3⟩
  have hB3 : Below w.heap.size w w3 := (hB2.alloc hB2.size _).trans (hb3.mono (by have := hB2.size; simp; omega))
  clear hb3 rB3 rB2 hB2 hc2 hf2
  rw [decide_eq_true (rfl : ([1] : List Int) = [1])]
  go_wp2_with (go_at_call 8; refine (wake_any _ _ _ _).mono ?_; rintro e w' ⟨rfl, rfl⟩)
  go_ret
  exact ⟨rfl, hB3⟩
end Go.Proofs.Ytigbkihaclobgaa

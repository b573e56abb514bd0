/-
  The law SpreadWorlds as a contract.
-/
import Derived.Test.YthbpaggeajjepaaSpread
namespace Go.Proofs.Ythbpaggeajjepaa
open Go.RowKit
def wakeB (a b c : Int) : Bool := decide (0 < a) && decide (b ≤ 0) && decide (0 < c)
theorem wake_any (a b c : Int) (w : World) : Calls Try.prog 16 #[.int .i64 a, .int .i64 b, .int .i64 c] w fun e w' => e = .returned (.bool (wakeB a b c)) ∧ w = w' := by
  by_cases h0 : 0 < a
  · by_cases h1 : b ≤ 0
    · go_enter Try.func16, Try.ntmps16
      go_wp2
      go_ret
      exact ⟨by simp [wakeB, h0, h1], rfl⟩
    · have h1' : decide (b ≤ 0) = false := by simpa using h1
      go_enter Try.func16, Try.ntmps16
      go_wp2
      go_ret
      exact ⟨by simp [wakeB, h1'], rfl⟩
  · have h0' : decide (0 < a) = false := by simpa using h0
    go_enter Try.func16, Try.ntmps16
    go_wp2
    go_ret
    exact ⟨by simp [wakeB, h0'], rfl⟩
theorem row_lit {w : World} {g : Nat} {t : TypeId} {cs : Array Value} (h : Blk w g t cs) : Row w w.heap.size (some ⟨g, 0, none⟩) cs.toList :=
  .inr ⟨g, 0, rfl, h.lt, fun j u hu => by rw [Nat.zero_add, h.cell]; simpa using hu⟩
theorem row_new {w : World} {g : Nat} {t : TypeId} {cs : Array Value} (h : g = w.heap.size) : Row (w.alloc (.cells cs t)) (w.alloc (.cells cs t)).heap.size (some ⟨g, 0, none⟩) cs.toList := by
  subst h; exact row_lit (Blk.new w t cs)
theorem Row.step {w w' : World} {A : Option Addr} {xs : List Value} (h : Row w w.heap.size A xs) (hb : Below w.heap.size w w') : Row w' w'.heap.size A xs := (h.below hb).more hb.size
theorem Row.alloc {w : World} {A : Option Addr} {xs : List Value} (h : Row w w.heap.size A xs) (o : Obj) : Row (w.alloc o) (w.alloc o).heap.size A xs := h.step ((Below.refl _ _).alloc (Nat.le_refl _) _)
theorem bcell {W w1 : World} (hb : Below W.heap.size W w1) : (∀ b o, b < W.heap.size → w1.cell? ⟨b, o, none⟩ = W.cell? ⟨b, o, none⟩) ∧ (∀ b o, b < W.heap.size → w1.frozen? ⟨b, o, none⟩ = W.frozen? ⟨b, o, none⟩) :=
  ⟨fun b o h => hb.cell (p := ⟨b, o, none⟩) h, fun b o h => hb.frozen (p := ⟨b, o, none⟩) h⟩
set_option maxHeartbeats 2000000 in
theorem alive24 (w : World) : Calls Try.prog 12 #[] w fun e w' => e = .returned (.bool true) ∧ Below w.heap.size w w' := by
  have ep : planL [1, 0, 2] 0 1 3 = ([2], [1]) := by decide
  have EP := Lib.hid ep
  clear ep
  have e1 : wakeB 1 0 1 = true := by decide
  have e2 : wakeB 1 1 1 = false := by decide
  go_enter Try.func12, Try.ntmps12
  go_wp2_with fail
  have hq : Row (w.alloc (.cells #[.int .i64 1, .int .i64 0, .int .i64 2] 3)) (w.alloc (.cells #[.int .i64 1, .int .i64 0, .int .i64 2] 3)).heap.size (some ⟨w.heap.size, 0, none⟩) (ints [1, 0, 2]) := row_lit (Blk.new w 3 _)
  refine (world_any _ 3 3 [1, 0, 2] 0 1 _ rfl (by omega) ⟨by omega, by omega⟩ hq).mono ?_
  rintro e w1 ⟨⟨A1, B1, c1, d1, rfl, hrA, hrB⟩, hb1⟩
  rw [EP.out] at hrA hrB
  rw [EP.out]
  have hB0 : Below w.heap.size w (w.alloc (.cells #[.int .i64 1, .int .i64 0, .int .i64 2] 3)) := (Below.refl _ _).alloc (Nat.le_refl _) _
  have hB1 := hB0.trans (hb1.mono hB0.size)
  simp only [List.length_singleton]
  clear hq hb1 hB0
  go_wp2_with fail
  have rA := (hrA.alloc (.cells #[.slice A1 1 c1, .slice B1 1 d1] 25)).alloc (.cells #[.int .i64 2] 3)
  have rB := (hrB.alloc (.cells #[.slice A1 1 c1, .slice B1 1 d1] 25)).alloc (.cells #[.int .i64 2] 3)
  have r2 : Row ((w1.alloc (.cells #[.slice A1 1 c1, .slice B1 1 d1] 25)).alloc (.cells #[.int .i64 2] 3)) ((w1.alloc (.cells #[.slice A1 1 c1, .slice B1 1 d1] 25)).alloc (.cells #[.int .i64 2] 3)).heap.size (some ⟨w1.heap.size + 1, 0, none⟩) (ints [2]) := by
    exact row_new (by simp)
  refine (same_any _ _ 1 1 _ _ [2] [2] _ rfl rfl (by simp [maxLen]) (by simp [maxLen]) rA r2).mono ?_
  rintro e w2 ⟨rfl, hb2⟩
  have rB2 := rB.step hb2
  have hB2 : Below w.heap.size w w2 := by
    have h1 : Below w.heap.size w ((w1.alloc (.cells #[.slice A1 1 c1, .slice B1 1 d1] 25)).alloc (.cells #[.int .i64 2] 3)) := (hB1.alloc hB1.size _).alloc (by have := hB1.size; simp; omega) _
    exact h1.trans (hb2.mono h1.size)
  obtain ⟨hc2, hf2⟩ := bcell hb2
  have hz2 : w1.heap.size + 1 < w2.heap.size := by have := hb2.size; simp at this; omega
  clear rA rB r2 hb2 hrA hrB hB1
  rw [decide_eq_true (rfl : ([2] : List Int) = [2])]
  go_wp2_with fail
  have rB3 := rB2.alloc (.cells #[.int .i64 1] 3)
  refine (same_any _ _ 1 1 _ _ [1] [1] _ rfl rfl (by simp [maxLen]) (by simp [maxLen]) rB3 (row_lit (Blk.new w2 3 _))).mono ?_
  rintro e w3 ⟨rfl, hb3⟩
  have hB3 : Below w.heap.size w w3 := (hB2.alloc hB2.size _).trans (hb3.mono (by have := hB2.size; simp; omega))
  clear hb3 rB3 rB2 hB2 hc2 hf2
  rw [decide_eq_true (rfl : ([1] : List Int) = [1])]
  go_wp2_with (go_at_call 16; refine (wake_any _ _ _ _).mono ?_; rintro e w' ⟨rfl, rfl⟩)
  go_ret
  exact ⟨rfl, hB3⟩
set_option maxHeartbeats 2000000 in
theorem worlds_law (A : Option Addr) (n c : Nat) (zs : List Int) (self ms : Int) (w : World) (hn : zs.length = n) (hms : I64 ms) (hr : Row w w.heap.size A (ints zs)) :
    Calls Try.prog 3 #[.slice A n c, .int .i64 self, .int .i64 ms] w fun e w' => e = .returned (.bool true) ∧ Below w.heap.size w w' := by
  have HN := Lib.hid hn
  have HR := Lib.hid hr
  have HM := Lib.hid hms
  clear hn hr hms
  by_cases h300 : 300 < n
  · go_enter Try.func3, Try.ntmps3
    go_wp2_with (go_at_call 12; refine (alive24 _).mono ?_; rintro e w1 ⟨rfl, hb1⟩)
    go_ret
    exact ⟨rfl, hb1⟩
  · go_enter Try.func3, Try.ntmps3
    go_wp2_with fail
    refine (world_any _ _ _ zs _ _ _ HN.out (by omega) HM.out HR.out).mono ?_
    rintro e w1 ⟨⟨A1, B1, c1, d1, rfl, hrA, hrB⟩, hb1⟩
    have hlen := plan_len zs self ms n
    generalize hpl : planL zs self ms n = pl at *
    have HPL := Lib.hid hpl
    clear hpl
    obtain ⟨gl, il⟩ := pl
    simp only at hrA hrB hlen ⊢
    have RA := Lib.hid (hrA.alloc (.cells #[.slice A1 gl.length c1, .slice B1 il.length d1] 25))
    have RB := Lib.hid (hrB.alloc (.cells #[.slice A1 gl.length c1, .slice B1 il.length d1] 25))
    have HR1 := Lib.hid ((HR.out.step hb1).alloc (.cells #[.slice A1 gl.length c1, .slice B1 il.length d1] 25))
    have HB1 := Lib.hid (hb1.alloc hb1.size (.cells #[.slice A1 gl.length c1, .slice B1 il.length d1] 25))
    clear hrA hrB hb1
    go_wp2_with fail
    refine (rworld_any _ _ _ zs _ _ _ HN.out (by omega) HM.out HR1.out).mono ?_
    rintro e w2 ⟨⟨A2, B2, c2, d2, rfl, hrA, hrB⟩, hb2⟩
    rw [HPL.out] at hrA hrB ⊢
    simp only at hrA hrB ⊢
    have hz2 : w1.heap.size < w2.heap.size := by have := hb2.size; simp at this; omega
    have RA2 := Lib.hid ((RA.out.step hb2).alloc (.cells #[.slice A2 gl.length c2, .slice B2 il.length d2] 27))
    have RB2 := Lib.hid ((RB.out.step hb2).alloc (.cells #[.slice A2 gl.length c2, .slice B2 il.length d2] 27))
    have SA2 := Lib.hid (hrA.alloc (.cells #[.slice A2 gl.length c2, .slice B2 il.length d2] 27))
    have SB2 := Lib.hid (hrB.alloc (.cells #[.slice A2 gl.length c2, .slice B2 il.length d2] 27))
    have HB2 := Lib.hid ((HB1.out.trans (hb2.mono HB1.out.size)).alloc (by have := HB1.out.size; have := hb2.size; omega) (.cells #[.slice A2 gl.length c2, .slice B2 il.length d2] 27))
    obtain ⟨hc2, hf2⟩ := bcell hb2
    clear hrA hrB hb2
    go_wp2_with fail
    refine (same_any _ _ _ _ _ _ gl gl _ rfl rfl (by unfold maxLen; omega) (by unfold maxLen; omega) RA2.out SA2.out).mono ?_
    rintro e w3 ⟨rfl, hb3⟩
    rw [decide_eq_true (rfl : gl = gl)]
    have RB3 := Lib.hid (RB2.out.step hb3)
    have SB3 := Lib.hid (SB2.out.step hb3)
    have HB3 := Lib.hid (HB2.out.trans (hb3.mono HB2.out.size))
    obtain ⟨hc3, hf3⟩ := bcell hb3
    clear hb3
    go_wp2_with fail
    refine (same_any _ _ _ _ _ _ il il _ rfl rfl (by unfold maxLen; omega) (by unfold maxLen; omega) RB3.out SB3.out).mono ?_
    rintro e w4 ⟨rfl, hb4⟩
    rw [decide_eq_true (rfl : il = il)]
    have HB4 := Lib.hid (HB3.out.trans (hb4.mono HB3.out.size))
    clear hb4
    by_cases h1 : 0 < self
    · by_cases h2 : ms ≤ 0
      · have e1 : wakeB self ms n = decide (0 < n) := by simp [wakeB, h1, h2]
        go_wp2_with (first | (go_at_call 16; refine (wake_any _ _ _ _).mono ?_; rintro e w' ⟨rfl, rfl⟩) | (go_at_call 12; refine (alive24 _).mono ?_; rintro e w5 ⟨rfl, hb5⟩))
        go_ret
        exact ⟨rfl, HB4.out.trans (hb5.mono HB4.out.size)⟩
      · have h2' : decide (ms ≤ 0) = false := by simpa using h2
        have e1 : wakeB self ms n = false := by simp [wakeB, h2]
        go_wp2_with (first | (go_at_call 16; refine (wake_any _ _ _ _).mono ?_; rintro e w' ⟨rfl, rfl⟩) | (go_at_call 12; refine (alive24 _).mono ?_; rintro e w5 ⟨rfl, hb5⟩))
        go_ret
        exact ⟨rfl, HB4.out.trans (hb5.mono HB4.out.size)⟩
    · have h1' : decide (0 < self) = false := by simpa using h1
      have e1 : wakeB self ms n = false := by simp [wakeB, h1]
      go_wp2_with (first | (go_at_call 16; refine (wake_any _ _ _ _).mono ?_; rintro e w' ⟨rfl, rfl⟩) | (go_at_call 12; refine (alive24 _).mono ?_; rintro e w5 ⟨rfl, hb5⟩))
      go_ret
      exact ⟨rfl, HB4.out.trans (hb5.mono HB4.out.size)⟩
end Go.Proofs.Ythbpaggeajjepaa

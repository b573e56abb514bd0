/-
  Chapter 11: which threads fit: contracts of vm's closure 'wrong', slices.ContainsFunc at frames, fits, Fits. Conditions: program and thread lie in memory; the table isa.rows.
-/
import Derived.Test.YtoacnphgkgklcaaDoorVm4
namespace Go.Proofs.YtoacnphgkgklcaaDoor
open Go.RowKit
/-- Is there such a place? -/
def placeB (fs : List Fn) (f pc : Int) : Bool := decide (0 ≤ f ∧ f < fs.length ∧ 0 ≤ pc ∧ pc < (fs.getD f.toNat noFn).code.length)
theorem placeB_nat (fs : List Fn) (k : Nat) (hk : k < fs.length) (pc : Int) : placeB fs k pc = decide (0 ≤ pc ∧ pc < (fs[k]).code.length) := by
  unfold placeB
  have e : fs.getD (k : Int).toNat noFn = fs[k] := by simp [hk]
  rw [e]
  rw [Bool.eq_iff_iff]
  simp
  omega
set_option maxHeartbeats 4000000 in
theorem wrong_any (f pc : Int) (g : Nat) (A : Option Addr) (c : Nat) (fs : List Fn) (w : World) (_hm : fs.length ≤ maxLen) (hg : w.cell? ⟨g, 0, none⟩ = some (.slice A fs.length c)) (hf : FnsOk w w.heap.size A fs) :
    Calls Tryd.prog 44 #[.agg #[.int .i64 f, .int .i64 pc], .pointer (some ⟨g, 0, none⟩)] w fun e w' => e = .returned (.bool (!placeB fs f pc)) ∧ Below w.heap.size w w' := by
  have hgl : g < w.heap.size := block_lt_of_cell hg
  have hb := (Below.refl w.heap.size w).alloc (Nat.le_refl _) (.cells #[.int .i64 f, .int .i64 pc] 64)
  have hW : ∃ W : World, Hid (W = w.alloc (.cells #[.int .i64 f, .int .i64 pc] 64)) := ⟨_, rfl⟩
  obtain ⟨W, HW⟩ := hW
  have hBl : Blk W w.heap.size 64 #[.int .i64 f, .int .i64 pc] := by rw [HW.out]; exact Blk.new w _ _
  rw [← HW.out] at hb
  have hf0 := hf.step hb
  have HB := Lib.hid hb
  have hg0 : W.cell? ⟨g, 0, none⟩ = some (.slice A fs.length c) := (hb.cell (p := ⟨g, 0, none⟩) hgl).trans hg
  have hgl2 : g < W.heap.size := block_lt_of_cell hg0
  have G0 : ∀ w', Below W.heap.size W w' → w'.cell? ⟨g, 0, none⟩ = some (.slice A fs.length c) := fun w' h => (h.cell (p := ⟨g, 0, none⟩) hgl2).trans hg0
  have G1 : ∀ w', Below W.heap.size W w' → w'.cell? ⟨w.heap.size, 0, none⟩ = some (.int .i64 f) := fun w' h => (h.cell (p := ⟨w.heap.size, 0, none⟩) hBl.lt).trans (hBl.cell 0)
  have G2 : ∀ w', Below W.heap.size W w' → w'.cell? ⟨w.heap.size, 1, none⟩ = some (.int .i64 pc) := fun w' h => (h.cell (p := ⟨w.heap.size, 1, none⟩) hBl.lt).trans (hBl.cell 1)
  unfold maxLen at _hm
  clear hb hf hg hg0 hBl
  have fin : ∀ (P : Prop) [Decidable P], P → True := fun _ _ _ => trivial
  clear fin
  by_cases h1 : f < 0
  · have e : placeB fs f pc = false := by unfold placeB; rw [decide_eq_false]; omega
    rw [e]
    have hd : decide (f < 0) = true := by simpa using h1
    clear e hf0
    go_enter Tryd.func44, Tryd.ntmps44
    go_wp2_with fail
    rw [← HW.out]
    refine region_below W W.heap.size (by kernel_rfl) (by kernel_rfl) (Below.refl _ _) ?_
    repeat (first | go_big_quiet_skip | (go_big_quiet_want; first | (go_big_quiet_op; first | go_big_quiet_on | ((first | with_reducible refine ⟨_, fun _ _ => rfl, ?_⟩); go_big_quiet_on)) | (simp (contextual := true) [go_sem, G1]; with_reducible refine ⟨_, fun _ _ => rfl, ?_⟩; go_big_quiet_on)))
    refine wpQuiet_nil ?_
    intro w1 hw1
    clear G0 G1 G2
    go_wp2_with fail
    go_ret
    exact ⟨rfl, HB.out.trans (hw1.mono HB.out.size)⟩
  obtain ⟨k, rfl⟩ := Int.eq_ofNat_of_zero_le (show 0 ≤ f by omega)
  have hd1 : decide ((k : Int) < 0) = false := by simp
  by_cases h2 : k < fs.length
  · obtain ⟨b, off, a, rfl, hbl, hc0, hc1, hfk⟩ := hf0.at_ k h2
    have G3 : ∀ w', Below W.heap.size W w' → w'.cell? ⟨b, off + k * 2, none⟩ = some (.slice a.C a.n a.c) := fun w' h => (h.cell (p := ⟨b, off + k * 2, none⟩) hbl).trans hc0
    have HP := Lib.hid (placeB_nat fs k h2 pc)
    have HAN := Lib.hid hfk.1
    have hd2 : decide (fs.length ≤ k) = false := by simp; omega
    have hnl : a.n ≤ maxLen := hfk.2.2.2.2.1
    unfold maxLen at hnl
    by_cases h3 : pc < 0
    · have hd3 : decide (pc < 0) = true := by simpa using h3
      have HE := Lib.hid (show placeB fs k pc = false by rw [HP.out, decide_eq_false]; omega)
      clear hc0 hc1 hfk hf0 h1
      go_enter Tryd.func44, Tryd.ntmps44
      go_wp2_with fail
      rw [← HW.out]
      refine region_below W W.heap.size (by kernel_rfl) (by kernel_rfl) (Below.refl _ _) ?_
      repeat (first | go_big_quiet_skip | (go_big_quiet_want; first | (go_big_quiet_op; first | go_big_quiet_on | ((first | with_reducible refine ⟨_, fun _ _ => rfl, ?_⟩); go_big_quiet_on)) | (simp (contextual := true) [go_sem, G0, G1, G2]; with_reducible refine ⟨_, fun _ _ => rfl, ?_⟩; go_big_quiet_on)))
      refine wpQuiet_nil ?_
      intro w1 hw1
      clear G0 G1 G2 G3
      go_wp2_with fail
      go_ret
      exact ⟨by rw [HE.out]; rfl, HB.out.trans (hw1.mono HB.out.size)⟩
    · have hd3 : decide (pc < 0) = false := by simp; omega
      have HE := Lib.hid (show placeB fs k pc = !decide ((a.n : Int) ≤ pc) by
        rw [HP.out, HAN.out, Bool.eq_iff_iff]
        simp
        omega)
      clear hc0 hc1 hfk hf0 h1
      go_enter Tryd.func44, Tryd.ntmps44
      go_wp2_with fail
      rw [← HW.out]
      refine region_below W W.heap.size (by kernel_rfl) (by kernel_rfl) (Below.refl _ _) ?_
      repeat (first | go_big_quiet_skip | (go_big_quiet_want; first | (go_big_quiet_op; first | go_big_quiet_on | ((first | with_reducible refine ⟨_, fun _ _ => rfl, ?_⟩); go_big_quiet_on)) | (simp (contextual := true) [go_sem, G0, G1, G2, G3]; with_reducible refine ⟨_, fun _ _ => rfl, ?_⟩; go_big_quiet_on)))
      refine wpQuiet_nil ?_
      intro w1 hw1
      clear G0 G1 G2 G3
      go_wp2_with fail
      go_ret
      exact ⟨by rw [HE.out]; simp, HB.out.trans (hw1.mono HB.out.size)⟩
  · have e : placeB fs k pc = false := by unfold placeB; rw [decide_eq_false]; omega
    rw [e]
    have hd2 : decide (fs.length ≤ k) = true := by simp; omega
    clear e hf0 h1
    go_enter Tryd.func44, Tryd.ntmps44
    go_wp2_with fail
    rw [← HW.out]
    refine region_below W W.heap.size (by kernel_rfl) (by kernel_rfl) (Below.refl _ _) ?_
    repeat (first | go_big_quiet_skip | (go_big_quiet_want; first | (go_big_quiet_op; first | go_big_quiet_on | ((first | with_reducible refine ⟨_, fun _ _ => rfl, ?_⟩); go_big_quiet_on)) | (simp (contextual := true) [go_sem, G0, G1]; with_reducible refine ⟨_, fun _ _ => rfl, ?_⟩; go_big_quiet_on)))
    refine wpQuiet_nil ?_
    intro w1 hw1
    clear G0 G1 G2
    go_wp2_with fail
    go_ret
    exact ⟨rfl, HB.out.trans (hw1.mono HB.out.size)⟩
end Go.Proofs.YtoacnphgkgklcaaDoor

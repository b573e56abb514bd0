/-
  Chapter 11: which threads are the same. Contracts of slices.Equal at frames, vm.Same, the reference's Same.
-/
import Derived.Test.YtoacnphgkgklcaaDoorVm1
import Derived.WalkSpells
import Derived.WalkLawsBesides
namespace Go.Proofs.YtoacnphgkgklcaaDoor
open Go.RowKit
theorem takeEq_succ {α : Type} (xs ys : List α) (k : Nat) (h : xs.take k = ys.take k) (h1 : k < xs.length) (h2 : k < ys.length) (h3 : xs[k] = ys[k]) : xs.take (k + 1) = ys.take (k + 1) := by
  rw [List.take_succ_eq_append_getElem h1, List.take_succ_eq_append_getElem h2, h, h3]
theorem fr_cells {w : World} {B : Nat} {A : Option Addr} {xs : List (Int × Int)} (h : Row w B A (xs.flatMap frVals)) (k : Nat) (hk : k < xs.length) :
    ∃ b off, A = some ⟨b, off, none⟩ ∧ b < B ∧ w.cell? ⟨b, off + k * 2, none⟩ = some (.int .i64 xs[k].1) ∧ w.cell? ⟨b, off + k * 2 + 1, none⟩ = some (.int .i64 xs[k].2) := by
  obtain ⟨b, off, e, hb, hc⟩ := h.at_ (k := k * 2) (by rw [flat_length frVals_len]; omega)
  exact ⟨b, off, e, hb, hc _ _ (flat_at frVals_len xs k 0 _ _ (List.getElem?_eq_getElem hk) rfl), by rw [Nat.add_assoc]; exact hc _ _ (flat_at frVals_len xs k 1 _ _ (List.getElem?_eq_getElem hk) rfl)⟩
set_option maxHeartbeats 1000000 in
theorem frEqual_any (A B : Option Addr) (n m c d : Nat) (xs ys : List (Int × Int)) (w : World) (hn : xs.length = n) (hm : ys.length = m) (_hn : n ≤ maxLen) (_hm : m ≤ maxLen) (ha : Row w w.heap.size A (xs.flatMap frVals)) (hb : Row w w.heap.size B (ys.flatMap frVals)) :
    Calls Tryd.prog 34 #[.slice A n c, .slice B m d] w fun e w' => e = .returned (.bool (decide (xs = ys))) ∧ Below w.heap.size w w' := by
  unfold maxLen at _hn _hm
  by_cases hnm : n = m
  · subst hnm
    have HX := Lib.hid hn
    have HY := Lib.hid hm
    have HA := Lib.hid ha
    have HB := Lib.hid hb
    clear hn hm ha hb
    go_enter Tryd.func34, Tryd.ntmps34
    go_wp2_with fail
    go_loopw [13] (fun vi wr => ∃ k : Nat, k ≤ n ∧ vi = .int .i64 k ∧ xs.take k = ys.take k ∧ Below w.heap.size w wr) (fun vi _ => n - (intOf vi).toNat)
    case atStart => exact ⟨0, Nat.zero_le _, rfl, rfl, Below.refl _ _⟩
    case round =>
      obtain ⟨k, hk, rfl, ht, hbw⟩ := hrel
      have HT := Lib.hid ht
      clear ht
      by_cases hlt : k < n
      · have hkx : k < xs.length := by have := HX.out; omega
        have hky : k < ys.length := by have := HY.out; omega
        obtain ⟨b, off, rfl, hbl, hx0, hx1⟩ := fr_cells HA.out k hkx
        obtain ⟨b', off', rfl, hbl', hy0, hy1⟩ := fr_cells HB.out k hky
        have F0 : ∀ w', Below w.heap.size w w' → w'.cell? ⟨b, off + k * 2, none⟩ = some (.int .i64 xs[k].1) := fun w' h => (h.cell (p := ⟨b, off + k * 2, none⟩) hbl).trans hx0
        have F1 : ∀ w', Below w.heap.size w w' → w'.cell? ⟨b, off + k * 2 + 1, none⟩ = some (.int .i64 xs[k].2) := fun w' h => (h.cell (p := ⟨b, off + k * 2 + 1, none⟩) hbl).trans hx1
        have F2 : ∀ w', Below w.heap.size w w' → w'.cell? ⟨b', off' + k * 2, none⟩ = some (.int .i64 ys[k].1) := fun w' h => (h.cell (p := ⟨b', off' + k * 2, none⟩) hbl').trans hy0
        have F3 : ∀ w', Below w.heap.size w w' → w'.cell? ⟨b', off' + k * 2 + 1, none⟩ = some (.int .i64 ys[k].2) := fun w' h => (h.cell (p := ⟨b', off' + k * 2 + 1, none⟩) hbl').trans hy1
        clear hx0 hx1 hy0 hy1 hbl hbl'
        have HXY := Lib.hid (show (xs[k].1 = ys[k].1 ∧ xs[k].2 = ys[k].2) ↔ xs[k] = ys[k] from ⟨fun h => Prod.ext h.1 h.2, fun h => by rw [h]; exact ⟨rfl, rfl⟩⟩)
        have HNE := Lib.hid (show ¬ xs[k] = ys[k] → decide (xs = ys) = false from fun he => by
          rw [decide_eq_false]
          intro h; apply he; simp [h])
        have HEQ := Lib.hid (fun h => takeEq_succ xs ys k HT.out hkx hky h)
        generalize xs[k] = x at *
        generalize ys[k] = y at *
        obtain ⟨x1, x2⟩ := x
        obtain ⟨y1, y2⟩ := y
        simp only at F0 F1 F2 F3 HXY
        have hcase : (x1 == y1) = false ∨ ((x1 == y1) = true ∧ (x2 == y2) = false) ∨ ((x1 == y1) = true ∧ (x2 == y2) = true) := by
          cases (x1 == y1) <;> cases (x2 == y2) <;> simp
        rcases hcase with h1 | ⟨h1, h2⟩ | ⟨h1, h2⟩
        · have HR := Lib.hid (HNE.out (fun h => by have := (HXY.out.2 h).1; simp [this] at h1))
          go_wp2_with fail
          refine region_below w w.heap.size (by kernel_rfl) (by kernel_rfl) hbw ?_
          repeat (first | go_big_quiet_skip | (go_big_quiet_want; first | (go_big_quiet_op; first | go_big_quiet_on | ((first | with_reducible refine ⟨_, fun _ _ => rfl, ?_⟩); go_big_quiet_on)) | (simp (contextual := true) [go_sem, F0, F1, F2, F3]; with_reducible refine ⟨_, fun _ _ => rfl, ?_⟩; go_big_quiet_on)))
          refine wpQuiet_nil ?_
          intro w1 hw1
          clear F0 F1 F2 F3
          go_wp2_with fail
          go_ret
          exact ⟨by rw [HR.out]; rfl, hw1⟩
        · have HR := Lib.hid (HNE.out (fun h => by have := (HXY.out.2 h).2; simp [this] at h2))
          obtain rfl : x1 = y1 := by simpa using h1
          clear h1
          go_wp2_with fail
          refine region_below w w.heap.size (by kernel_rfl) (by kernel_rfl) hbw ?_
          repeat (first | go_big_quiet_skip | (go_big_quiet_want; first | (go_big_quiet_op; first | go_big_quiet_on | ((first | with_reducible refine ⟨_, fun _ _ => rfl, ?_⟩); go_big_quiet_on)) | (simp (contextual := true) [go_sem, F0, F1, F2, F3]; with_reducible refine ⟨_, fun _ _ => rfl, ?_⟩; go_big_quiet_on)))
          refine wpQuiet_nil ?_
          intro w1 hw1
          clear F0 F1 F2 F3
          go_wp2_with fail
          go_ret
          exact ⟨by rw [HR.out]; rfl, hw1⟩
        · obtain rfl : x1 = y1 := by simpa using h1
          obtain rfl : x2 = y2 := by simpa using h2
          have HR := Lib.hid (HEQ.out rfl)
          clear h1 h2 HEQ HNE HXY
          go_wp2_with fail
          refine region_below w w.heap.size (by kernel_rfl) (by kernel_rfl) hbw ?_
          repeat (first | go_big_quiet_skip | (go_big_quiet_want; first | (go_big_quiet_op; first | go_big_quiet_on | ((first | with_reducible refine ⟨_, fun _ _ => rfl, ?_⟩); go_big_quiet_on)) | (simp (contextual := true) [go_sem, F0, F1, F2, F3]; with_reducible refine ⟨_, fun _ _ => rfl, ?_⟩; go_big_quiet_on)))
          refine wpQuiet_nil ?_
          intro w1 hw1
          clear F0 F1 F2 F3
          go_wp2_with fail
          go_roundw
          case rel => exact ⟨k + 1, by omega, by go_num, HR.out, hw1⟩
          case measure => simp [intOf]; omega
      · have hkn : k = n := by omega
        subst hkn
        have HB2 := Lib.hid hbw
        clear hbw
        go_wp2_with fail
        go_ret
        have e : xs = ys := by
          have := HT.out
          rw [List.take_of_length_le (by rw [HX.out]; omega), List.take_of_length_le (by rw [HY.out]; omega)] at this
          exact this
        exact ⟨by rw [decide_eq_true e]; rfl, HB2.out⟩
  · have e : decide (xs = ys) = false := by
      rw [decide_eq_false]
      intro h
      rw [h, hm] at hn
      exact hnm hn.symm
    have hne : ((n : Int) != m) = true := by simp; omega
    rw [e]
    clear hn hm ha hb e hnm
    go_enter Tryd.func34, Tryd.ntmps34
    go_wp2_with fail
    go_ret
    exact ⟨rfl, Below.refl _ _⟩
end Go.Proofs.YtoacnphgkgklcaaDoor

/-
  Contract of the references' Truths: two slices of booleans are the same if the lists are.
-/
import Derived.Test.YtfgaonkoaolffaaDoorRows
import Derived.Test.YtfgaonkoaolffaaDoorMem
import Derived.Test.YtfgaonkoaolffaaDoorBoolv
import Derived.Test.YtfgaonkoaolffaaDoorCalm
import Derived.WalkSpells
import Derived.WalkLawsBesides
namespace Go.Proofs.YtfgaonkoaolffaaDoor
open Go.RowKit
theorem take_eq_succ {α : Type} (xs ys : List α) (k : Nat) (h : xs.take k = ys.take k) (h1 : k < xs.length) (h2 : k < ys.length) (h3 : xs[k] = ys[k]) : xs.take (k + 1) = ys.take (k + 1) := by
  rw [List.take_succ_eq_append_getElem h1, List.take_succ_eq_append_getElem h2, h, h3]
set_option maxHeartbeats 1000000 in
theorem truths_any (A B : Option Addr) (n m c d : Nat) (xs ys : List Bool) (w : World) (hn : xs.length = n) (hm : ys.length = m) (_hn : n ≤ maxLen) (_hm : m ≤ maxLen) (ha : Row w w.heap.size A (boolVals xs)) (hb : Row w w.heap.size B (boolVals ys)) :
    Calls Tryd.prog 15 #[.slice A n c, .slice B m d] w fun e w' => e = .returned (.bool (decide (xs = ys))) ∧ Below w.heap.size w w' := by
  unfold maxLen at _hn _hm
  by_cases hnm : n = m
  · subst hnm
    have HX := Lib.hid hn
    have HY := Lib.hid hm
    have HA := Lib.hid ha
    have HB := Lib.hid hb
    clear hn hm ha hb
    go_enter Tryd.func15, Tryd.ntmps15
    go_wp2_with fail
    go_loopw [5] (fun vi wr => ∃ k : Nat, k ≤ n ∧ vi = .int .i64 k ∧ xs.take k = ys.take k ∧ Below w.heap.size w wr) (fun vi _ => n - (intOf vi).toNat)
    case atStart => exact ⟨0, Nat.zero_le _, rfl, rfl, Below.refl _ _⟩
    case round =>
      obtain ⟨k, hk, rfl, ht, hbw⟩ := hrel
      have HT := Lib.hid ht
      clear ht
      by_cases hlt : k < n
      · have hkx : k < xs.length := by have := HX.out; omega
        have hky : k < ys.length := by have := HY.out; omega
        obtain ⟨b, off, rfl, hbl, hcx⟩ := HA.out.at_ (k := k) (by simpa [boolVals] using hkx)
        obtain ⟨b', off', rfl, hbl', hcy⟩ := HB.out.at_ (k := k) (by simpa [boolVals] using hky)
        have hx0 : ∀ w', Below w.heap.size w w' → w'.cell? ⟨b, off + k, none⟩ = some (.bool xs[k]) := fun w' h => (h.cell (p := ⟨b, off + k, none⟩) hbl).trans (hcx k _ (boolVals_at xs k hkx))
        have hy0 : ∀ w', Below w.heap.size w w' → w'.cell? ⟨b', off' + k, none⟩ = some (.bool ys[k]) := fun w' h => (h.cell (p := ⟨b', off' + k, none⟩) hbl').trans (hcy k _ (boolVals_at ys k hky))
        clear hcx hcy hbl hbl'
        by_cases he : xs[k] = ys[k]
        · have HE := Lib.hid he
          have he' : (xs[k] != ys[k]) = false := by simpa using he
          clear he
          generalize hX : xs[k] = x at *
          generalize hY : ys[k] = y at *
          have HXX := Lib.hid hX
          have HYY := Lib.hid hY
          clear hX hY
          cases x <;> cases y <;> first | (cases he'; done) | skip
          all_goals
            clear he'
            go_wp2_with fail
            refine region_below w w.heap.size (by kernel_rfl) (by kernel_rfl) hbw ?_
            repeat (first | go_big_quiet_skip | (go_big_quiet_want; first | (go_big_quiet_op; first | go_big_quiet_on | ((first | with_reducible refine ⟨_, fun _ _ => rfl, ?_⟩); go_big_quiet_on)) | (simp (contextual := true) [go_sem, hx0, hy0]; with_reducible refine ⟨_, fun _ _ => rfl, ?_⟩; go_big_quiet_on)))
            refine wpQuiet_nil ?_
            intro w1 hw1
            go_wp2_with fail
            go_roundw
            case rel => exact ⟨k + 1, by omega, by go_num, take_eq_succ xs ys k HT.out hkx hky (by rw [HXX.out, HYY.out]), hw1⟩
            case measure => simp [intOf]; omega
        · have he' : (xs[k] != ys[k]) = true := by simpa using he
          have hne : decide (xs = ys) = false := by
            simp only [decide_eq_false_iff_not]
            intro h; apply he; simp [h]
          have HE := Lib.hid hne
          clear he hne
          generalize xs[k] = x at *
          generalize ys[k] = y at *
          cases x <;> cases y <;> first | (cases he'; done) | skip
          all_goals
            clear he'
            go_wp2_with fail
            refine region_below w w.heap.size (by kernel_rfl) (by kernel_rfl) hbw ?_
            repeat (first | go_big_quiet_skip | (go_big_quiet_want; first | (go_big_quiet_op; first | go_big_quiet_on | ((first | with_reducible refine ⟨_, fun _ _ => rfl, ?_⟩); go_big_quiet_on)) | (simp (contextual := true) [go_sem, hx0, hy0]; with_reducible refine ⟨_, fun _ _ => rfl, ?_⟩; go_big_quiet_on)))
            refine wpQuiet_nil ?_
            intro w1 hw1
            go_wp2_with fail
            go_ret
            exact ⟨by rw [HE.out]; rfl, hw1⟩
      · have he : xs = ys := by
          have h1 := HX.out
          have h2 := HY.out
          have h3 := HT.out
          rwa [List.take_of_length_le (by omega), List.take_of_length_le (by omega)] at h3
        have he' : decide (xs = ys) = true := by simpa using he
        have HE := Lib.hid he'
        clear he he'
        go_wp2_with fail
        go_ret
        exact ⟨by rw [HE.out]; rfl, hbw⟩
  · have hne : decide (xs = ys) = false := by
      simp only [decide_eq_false_iff_not]
      rintro rfl; omega
    have hnm' : ((n : Int) != m) = true := by simp; omega
    rw [hne]
    clear hne ha hb hn hm hnm
    go_enter Tryd.func15, Tryd.ntmps15
    go_wp2_with fail
    go_ret
    exact ⟨rfl, Below.refl _ _⟩
end Go.Proofs.YtfgaonkoaolffaaDoor

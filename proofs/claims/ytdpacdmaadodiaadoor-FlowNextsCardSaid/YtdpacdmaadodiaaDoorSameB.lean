/-
  Contract of the references' Same: two slices of ints are the same if the lists are.
-/
import Derived.Test.YtdpacdmaadodiaaDoorRows
import Derived.Test.YtdpacdmaadodiaaDoorMem
import Derived.Test.YtdpacdmaadodiaaDoorCalm
import Derived.Test.YtdpacdmaadodiaaDoorTruth
import Derived.WalkSpells
import Derived.WalkLawsBesides
namespace Go.Proofs.YtdpacdmaadodiaaDoor
open Go.RowKit
set_option maxHeartbeats 1000000 in
theorem same_any (A B : Option Addr) (n m c d : Nat) (xs ys : List Int) (w : World) (hn : xs.length = n) (hm : ys.length = m) (_hn : n ≤ maxLen) (_hm : m ≤ maxLen) (ha : Row w w.heap.size A (ints xs)) (hb : Row w w.heap.size B (ints ys)) :
    Calls Tryd.prog 18 #[.slice A n c, .slice B m d] w fun e w' => e = .returned (.bool (decide (xs = ys))) ∧ Below w.heap.size w w' := by
  unfold maxLen at _hn _hm
  by_cases hnm : n = m
  · subst hnm
    have HX := Lib.hid hn
    have HY := Lib.hid hm
    have HA := Lib.hid ha
    have HB := Lib.hid hb
    clear hn hm ha hb
    go_enter Tryd.func18, Tryd.ntmps18
    go_wp2_with fail
    go_loopw [5] (fun vi wr => ∃ k : Nat, k ≤ n ∧ vi = .int .i64 k ∧ xs.take k = ys.take k ∧ Below w.heap.size w wr) (fun vi _ => n - (intOf vi).toNat)
    case atStart => exact ⟨0, Nat.zero_le _, rfl, rfl, Below.refl _ _⟩
    case round =>
      obtain ⟨k, hk, rfl, ht, hbw⟩ := hrel
      have HT := Lib.hid ht
      clear ht
      by_cases hlt : k < n
      · have hkx : k < xs.length := by have := HX.out; omega
        have hky : k < ys.length := by have := HY.out; omega
        obtain ⟨b, off, rfl, hbl, hcx⟩ := HA.out.at_ (k := k) (by simpa [ints] using hkx)
        obtain ⟨b', off', rfl, hbl', hcy⟩ := HB.out.at_ (k := k) (by simpa [ints] using hky)
        have hx0 : ∀ w', Below w.heap.size w w' → w'.cell? ⟨b, off + k, none⟩ = some (.int .i64 xs[k]) := fun w' h => (h.cell (p := ⟨b, off + k, none⟩) hbl).trans (hcx k _ (ints_at_ xs k hkx))
        have hy0 : ∀ w', Below w.heap.size w w' → w'.cell? ⟨b', off' + k, none⟩ = some (.int .i64 ys[k]) := fun w' h => (h.cell (p := ⟨b', off' + k, none⟩) hbl').trans (hcy k _ (ints_at_ ys k hky))
        clear hcx hcy hbl hbl'
        by_cases he : xs[k] = ys[k]
        · have HE := Lib.hid he
          have he' : (xs[k] != ys[k]) = false := by simpa using he
          clear he
          generalize hX : xs[k] = x at *
          generalize hY : ys[k] = y at *
          have HXX := Lib.hid hX
          have HYY := Lib.hid hY
          clear hX hY
          go_wp2_with fail
          refine region_below w w.heap.size (by kernel_rfl) (by kernel_rfl) hbw ?_
          repeat (first | go_big_quiet_skip | (go_big_quiet_want; first | (go_big_quiet_op; first | go_big_quiet_on | ((first | with_reducible refine ⟨_, fun _ _ => rfl, ?_⟩); go_big_quiet_on)) | (simp (contextual := true) [go_sem, hx0, hy0]; with_reducible refine ⟨_, fun _ _ => rfl, ?_⟩; go_big_quiet_on)))
          refine wpQuiet_nil ?_
          intro w1 hw1
          go_wp2_with fail
          go_roundw
          case rel => exact ⟨k + 1, by omega, by go_num, take_eq_succ xs ys k HT.out hkx hky (by rw [HXX.out, HYY.out, HE.out]), hw1⟩
          case measure => simp [intOf]; omega
        · have he' : (xs[k] != ys[k]) = true := by simpa using he
          have hne : decide (xs = ys) = false := by
            simp only [decide_eq_false_iff_not]
            intro h; apply he; simp [h]
          have HE := Lib.hid hne
          clear he hne
          generalize xs[k] = x at *
          generalize ys[k] = y at *
          go_wp2_with fail
          refine region_below w w.heap.size (by kernel_rfl) (by kernel_rfl) hbw ?_
          repeat (first | go_big_quiet_skip | (go_big_quiet_want; first | (go_big_quiet_op; first | go_big_quiet_on | ((first | with_reducible refine ⟨_, fun _ _ => rfl, ?_⟩); go_big_quiet_on)) | (simp (contextual := true) [go_sem, hx0, hy0]; with_reducible refine ⟨_, fun _ _ => rfl, ?_⟩; go_big_quiet_on)))
          refine wpQuiet_nil ?_
          intro w1 hw1
          go_wp2_with fail
          go_ret
          exact ⟨by rw [HE.out]; rfl, hw1⟩
      · have he : xs = ys := by
          have h1 := HX.out
          have h2 := HY.out
          have h3 := HT.out
          rwa [List.take_of_length_le (by omega), List.take_of_length_le (by omega)] at h3
        have he' : decide (xs = ys) = true := by simpa using he
        have HE := Lib.hid he'
        clear he he'
        go_wp2_with fail
        go_ret
        exact ⟨by rw [HE.out]; rfl, hbw⟩
  · have hne : decide (xs = ys) = false := by
      simp only [decide_eq_false_iff_not]
      rintro rfl; omega
    have hnm' : ((n : Int) != m) = true := by simp; omega
    rw [hne]
    clear hne ha hb hn hm hnm
    go_enter Tryd.func18, Tryd.ntmps18
    go_wp2_with fail
    go_ret
    exact ⟨rfl, Below.refl _ _⟩
end Go.Proofs.YtdpacdmaadodiaaDoor

/-
  Chapter 8: the reference's Has, Insert, add: a number, in order, once. Conditions: the row lies in memory.
-/
import Derived.Test.YtfgaonkoaolffaaDoorNxt8
import Derived.Test.YtfgaonkoaolffaaDoorApp
import Derived.Test.YtfgaonkoaolffaaDoorSch
namespace Go.Proofs.YtfgaonkoaolffaaDoor
open Go.RowKit
def insN (l : List Nat) (x : Nat) : List Nat := l.takeWhile (fun y => decide (y < x)) ++ x :: l.dropWhile (fun y => decide (y < x))
theorem ups_len (l : List Nat) : (ints (upI l)).length = l.length := by simp [ints, upI]
theorem ups_at (l : List Nat) (k : Nat) (h : k < l.length) : (ints (upI l))[k]? = some (.int .i64 (l[k] : Nat)) := by simp [ints, upI, h]
set_option maxHeartbeats 1000000 in
theorem has_any {w : World} {B : Nat} {A : Option Addr} {c : Nat} (l : List Nat) (x : Nat) (hr : Row w B A (ints (upI l))) (hn : l.length ≤ 1000) :
    Calls Tryd.prog 27 #[.slice A l.length c, .int .i64 x] w fun e w' => e = .returned (.bool (decide (x ∈ l))) ∧ w = w' := by
  have HR := Lib.hid hr
  obtain ⟨n, HN⟩ : ∃ n, Hid (n = l.length) := ⟨_, Lib.hid rfl⟩
  rw [← HN.out] at hn ⊢
  clear hr
  go_enter Tryd.func27, Tryd.ntmps27
  go_upto_region 2 with (fail)
  go_loop [5] (fun vi => ∃ k : Nat, k ≤ n ∧ vi = .int .i64 k ∧ Hid (∀ j (h : j < l.length), j < k → l[j] ≠ x)) (fun vi => n - (intOf vi).toNat)
  case atStart => exact ⟨0, by omega, rfl, Lib.hid (fun j _ hj => absurd hj (Nat.not_lt_zero _))⟩
  case round =>
    obtain ⟨k, hk, rfl, K⟩ := hrel
    by_cases hlt : k < n
    · have hkl : k < l.length := by rw [← HN.out]; exact hlt
      obtain ⟨b, off, e0, hb, hc⟩ := HR.out.at_ (k := k) (by rw [ups_len]; exact hkl)
      subst e0
      have c0 := hc k _ (ups_at l k hkl)
      obtain ⟨y, HY⟩ : ∃ y, Hid (y = l[k]) := ⟨_, Lib.hid rfl⟩
      rw [← HY.out] at c0
      by_cases he : y = x
      · have hm : Hid (x ∈ l) := Lib.hid (by rw [← he, HY.out]; exact List.getElem_mem _)
        have he' : ((y : Int) == (x : Int)) = true := by rw [he]; exact beq_self_eq_true _
        clear hb hc HY he
        go_wp2_with fail
        go_ret
        rw [decide_eq_true hm.out]
        exact ⟨rfl, rfl⟩
      · have he' : ((y : Int) == (x : Int)) = false := beq_eq_false_iff_ne.2 (by omega)
        have HE := Lib.hid he
        clear hb hc he
        go_wp2_with fail
        refine ⟨⟨k + 1, by omega, by go_num, Lib.hid fun j hj hjk => ?_⟩, by simp [intOf]; omega⟩
        by_cases e : j = k
        · subst e; rw [← HY.out]; exact HE.out
        · exact K.out j hj (by omega)
    · have hm : Hid (¬ x ∈ l) := Lib.hid fun h => by
        obtain ⟨j, hj, e⟩ := List.getElem_of_mem h
        exact K.out j hj (by have := HN.out; omega) e
      go_wp2_with fail
      go_ret
      rw [decide_eq_false hm.out]
      exact ⟨rfl, rfl⟩
end Go.Proofs.YtfgaonkoaolffaaDoor

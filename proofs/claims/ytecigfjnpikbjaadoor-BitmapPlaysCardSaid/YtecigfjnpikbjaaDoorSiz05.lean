/-
  Chapter 5: what a nil map answers; the law BitmapSizes returns true. Condition: the table of math/bits.
-/
import Derived.Test.YtecigfjnpikbjaaDoorAll05
import Derived.Test.YtecigfjnpikbjaaDoorBm12
namespace Go.Proofs.YtecigfjnpikbjaaDoor
open Go.RowKit
theorem has_nil (i : Int) (w : World) : Calls Tryd.prog 17 #[.pointer none, .int .i64 i] w fun e w' => e = .returned (.bool false) ∧ w = w' := by
  by_cases h : 0 ≤ i
  · have hd : decide (i < 0) = false := by simpa using h
    go_enter Tryd.func17, Tryd.ntmps17
    go_wp2_with (go_at_call 18; refine (len_nil _).mono ?_; rintro e w1 ⟨rfl, rfl⟩)
    go_ret
    exact ⟨rfl, rfl⟩
  · have hd : decide (0 ≤ i) = false := by simpa using h
    go_enter Tryd.func17, Tryd.ntmps17
    go_wp2_with fail
    go_ret
    exact ⟨rfl, rfl⟩
theorem set_nil (i : Int) (w : World) : Calls Tryd.prog 15 #[.pointer none, .int .i64 i] w fun e w' => e = .returned (.bool false) ∧ w = w' := by
  by_cases h : 0 ≤ i
  · have hd : decide (i < 0) = false := by simpa using h
    have hd2 : decide (0 ≤ i) = true := by simpa using h
    go_enter Tryd.func15, Tryd.ntmps15
    go_wp2_with (go_at_call 18; refine (len_nil _).mono ?_; rintro e w1 ⟨rfl, rfl⟩)
    go_ret
    exact ⟨rfl, rfl⟩
  · have hd : decide (i < 0) = true := by simp; omega
    go_enter Tryd.func15, Tryd.ntmps15
    go_wp2_with fail
    go_ret
    exact ⟨rfl, rfl⟩
theorem clear_nil (i : Int) (w : World) : Calls Tryd.prog 16 #[.pointer none, .int .i64 i] w fun e w' => e = .returned (.bool false) ∧ w = w' := by
  go_enter Tryd.func16, Tryd.ntmps16
  go_wp2_with (go_at_call 17; refine (has_nil i _).mono ?_; rintro e w1 ⟨rfl, rfl⟩)
  go_ret
  exact ⟨rfl, rfl⟩
theorem bytes_nil (w : World) : Calls Tryd.prog 11 #[.pointer none] w fun e w' => e = .returned (.slice none 0 0) ∧ w = w' := by
  go_enter Tryd.func11, Tryd.ntmps11
  go_wp2_with fail
  go_ret
  exact ⟨rfl, rfl⟩
theorem next_nil (i : Int) (w : World) : Calls Tryd.prog 23 #[.pointer none, .int .i64 i] w fun e w' => e = .returned (.int .i64 (-1)) ∧ w = w' := by
  have hcase : 0 ≤ i ∨ i < 0 := by omega
  rcases hcase with hi | hi
  all_goals
    go_enter Tryd.func23, Tryd.ntmps23
    go_wp2_with fail
    go_step3
    go_wp2_with fail
    go_step3
    go_wp2_with fail
    go_loop [1] (fun v => ∃ k : Int, v = .int .i64 k ∧ 0 ≤ k) (fun _ => 0)
    case atStart => first | exact ⟨_, rfl, hi⟩ | exact ⟨_, rfl, Int.le_refl _⟩
    case round =>
      obtain ⟨k, rfl, hk⟩ := hrel
      have hd : decide (k < 0) = false := by simpa using hk
      go_wp2_with (go_at_call 18; refine (len_nil _).mono ?_; rintro e w1 ⟨rfl, rfl⟩)
      rw [Exit.noGoto_ret]
      go_ret
      exact ⟨rfl, rfl⟩
theorem getD_repl (n j : Nat) : (List.replicate n false).getD j false = false := by
  rw [List.getD_eq_getElem?_getD, List.getElem?_replicate]
  split <;> rfl
theorem hasB_repl (n : Nat) (i : Int) : hasB (List.replicate n false) i = false := by unfold hasB; rw [getD_repl, Bool.and_false]
theorem nextN_repl (n k : Nat) : nextN (List.replicate n false) k = -1 := nextN_none fun _ _ => getD_repl _ _
theorem hasB_turn (n : Nat) (i : Int) (h : 0 ≤ i ∧ i < n) : hasB (turnL (List.replicate n false) i true) i = true := by
  have h2 : 0 ≤ i ∧ i < ((List.replicate n false).length : Int) := by simpa using h
  unfold hasB turnL
  rw [if_pos h2, getD_set_ _ _ _ _ (by simp; omega), if_pos rfl, decide_eq_true h.1]
  rfl
theorem hasB_turn_no (n : Nat) (i : Int) (h : ¬ (0 ≤ i ∧ i < n)) : hasB (turnL (List.replicate n false) i true) i = false := by
  have h2 : ¬ (0 ≤ i ∧ i < ((List.replicate n false).length : Int)) := by simpa using h
  unfold turnL
  rw [if_neg h2]
  exact hasB_repl n i
set_option maxHeartbeats 4000000 in
theorem sizes05 (n i : Int) (w : World) (hT : Tab w) :
    Calls Tryd.prog 6 #[.int .i64 n, .int .i64 i] w fun e w' => e = .returned (.bool true) ∧ Below w.heap.size w w' := by
  have HT := Lib.hid hT
  clear hT
  by_cases hn : n < 0 ∨ 4096 < n
  · have HN := Lib.hid hn
    rcases hn with h1 | h1
    all_goals
      first | (have hd1 : decide (n < 0) = true := by simpa using h1) | (have hd1 : decide (n < 0) = false := by simp; omega)
      first | (have hd2 : decide (4096 < n) = true := by simpa using h1) | skip
      clear h1
      go_enter Tryd.func6, Tryd.ntmps6
      go_wp2_with (first | (go_at_call 25; refine (new_bad n HN.out _).mono ?_; rintro e w1 ⟨rfl, rfl⟩) | (go_at_call 18; refine (len_nil _).mono ?_; rintro e w1 ⟨rfl, rfl⟩) | (go_at_call 17; refine (has_nil i _).mono ?_; rintro e w1 ⟨rfl, rfl⟩) | (go_at_call 15; refine (set_nil i _).mono ?_; rintro e w1 ⟨rfl, rfl⟩) | (go_at_call 16; refine (clear_nil i _).mono ?_; rintro e w1 ⟨rfl, rfl⟩) | (go_at_call 22; refine (count_nil _).mono ?_; rintro e w1 ⟨rfl, rfl⟩) | (go_at_call 23; refine (next_nil i _).mono ?_; rintro e w1 ⟨rfl, rfl⟩))
      refine (all_nil _).mono ?_
      rintro e w2 ⟨A, c, rfl, hb2⟩
      have HB2 := Lib.hid hb2
      clear hb2
      go_wp2_with (first | (go_at_call 14; refine (bools_nil _).mono ?_; rintro e w1 ⟨rfl, rfl⟩) | (go_at_call 11; refine (bytes_nil _).mono ?_; rintro e w1 ⟨rfl, rfl⟩))
      refine (alive05 _ (HT.out.step HB2.out)).mono ?_
      rintro e w3 ⟨rfl, hb3⟩
      have HB3 := Lib.hid (HB2.out.trans (hb3.mono HB2.out.size))
      clear hb3
      go_wp2_with fail
      go_ret
      exact ⟨rfl, HB3.out⟩
  · obtain ⟨k, rfl⟩ := Int.eq_ofNat_of_zero_le (show 0 ≤ n by omega)
    have hk : k ≤ 4096 := by omega
    have hd1 : decide ((k : Int) < 0) = false := by simp
    have hd2 : decide ((4096 : Int) < k) = false := by simp; omega
    have HK := Lib.hid hk
    clear hn
    have hkey : ∀ T : Bool, Hid ((decide (0 ≤ i ∧ i < (k : Int))) = T) → (decide (0 ≤ i ∧ i < ((List.replicate k false).length : Int)) && !hasB (List.replicate k false) i) = T ∧ hasB (turnL (List.replicate k false) i true) i = T := by
      intro T hT
      rw [hasB_repl, Bool.not_false, Bool.and_true, List.length_replicate]
      refine ⟨hT.out, ?_⟩
      have h := hT.out
      cases T with
      | true => exact hasB_turn k i (of_decide_eq_true h)
      | false => exact hasB_turn_no k i (of_decide_eq_false h)
    have KEY := Lib.hid hkey
    clear hkey
    have hcase : (0 ≤ i ∧ i < (k : Int)) ∨ (0 ≤ i ∧ (k : Int) ≤ i) ∨ i < 0 := by omega
    rcases hcase with ⟨c1, c2⟩ | ⟨c1, c2⟩ | c1
    all_goals
      first | (have hq : decide (i < (k : Int)) = false := decide_eq_false (by omega)) | skip
      first | (have HC := Lib.hid (KEY.out true (decide_eq_true ⟨c1, c2⟩))) | (have HC := Lib.hid (KEY.out false (decide_eq_false (by omega))))
      go_enter Tryd.func6, Tryd.ntmps6
      go_wp2_with fail
      refine (new_any k HK.out w).mono ?_
      rintro e w1 ⟨g, gw, ws, rfl, hM, hg1, hg2, hb1⟩
      have HM := Lib.hid hM
      have HB1 := Lib.hid hb1
      have HG2 := Lib.hid hg2
      clear hM hb1 hg1 hg2
      go_wp2_with fail
      refine (len_any HM.out).mono ?_
      rintro e w2 ⟨rfl, rfl⟩
      rw [List.length_replicate]
      go_wp2_with fail
      refine (has_any i HM.out).mono ?_
      rintro e w2 ⟨rfl, rfl⟩
      rw [hasB_repl]
      go_wp2_with fail
      refine (next_any i HM.out (HT.out.step HB1.out)).mono ?_
      rintro e w2 ⟨rfl, rfl⟩
      rw [nextN_repl]
      go_wp2_with fail
      refine (set_any i HM.out).mono ?_
      rintro e w2 ⟨rfl, ws2, hM2, hgr, hsz⟩
      rw [HC.out.1]
      have HM2 := Lib.hid hM2
      have HB2 := Lib.hid (HB1.out.grown hgr HB1.out.size (fun j e => by cases e; exact HG2.out))
      clear hM2 hgr hsz
      go_wp2_with fail
      refine (has_any i HM2.out).mono ?_
      rintro e w3 ⟨rfl, rfl⟩
      rw [HC.out.2]
      go_wp2_with fail
      refine (alive05 _ (HT.out.step HB2.out)).mono ?_
      rintro e w3 ⟨rfl, hb3⟩
      have HB3 := Lib.hid (HB2.out.trans (hb3.mono HB2.out.size))
      clear hb3
      go_wp2_with fail
      go_ret
      exact ⟨rfl, HB3.out⟩
end Go.Proofs.YtecigfjnpikbjaaDoor

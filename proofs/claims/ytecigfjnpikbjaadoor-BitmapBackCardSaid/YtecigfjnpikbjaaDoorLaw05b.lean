/-
  Chapter 5: the law BitmapBack returns true, whatever the truths and the bytes are. Condition: the library's table.
-/
import Derived.Test.YtecigfjnpikbjaaDoorLaw05
namespace Go.Proofs.YtecigfjnpikbjaaDoor
open Go.RowKit
theorem parse_any2 (A : Option Addr) (n c : Nat) (l : List Nat) (w : World) (hl : l.length = n) (hcap : n ≤ c) (hm : n ≤ maxLen) (hx : ∀ x ∈ l, x < 256) (hr : Row w w.heap.size A (byteVals l)) : Calls Tryd.prog 8 #[.slice A n c] w (ParseOut w l) := by
  by_cases h2 : n < 2
  · exact parse_short A n c l w hl h2
  by_cases hN : parseN l ≤ 4096
  · by_cases hL : l.length = 2 + (parseN l + 7) / 8
    · exact parse_main A n c l w hl (by omega) hm hx hr hcap hN hL
    · exact parse_off A n c l w hl (by omega) hm hx hr hN hL
  · exact parse_big A n c l w hl (by omega) hm hx hr (by omega)
theorem Own.cap {w : World} {base : Nat} {e : TypeId} {size n c : Nat} {A : Option Addr} {xs : List Value} (h : Own w base e size A n c xs) : n ≤ c := by
  rcases h.2 with ⟨hv, hn⟩ | ⟨g, cap, cur, hv, hbg, hh, hnc, _⟩
  · omega
  · injection hv with _ _ h3
    omega
set_option maxHeartbeats 8000000 in
theorem back05 (A Bb : Option Addr) (n c m d : Nat) (l : List Bool) (bl : List Nat) (w : World) (hT : Tab w) (hl : l.length = n) (hnc : n ≤ c) (hc : c ≤ maxLen) (hbl : bl.length = m) (hmd : m ≤ d) (hd : d ≤ maxLen) (hx : ∀ x ∈ bl, x < 256) (hr : Row w w.heap.size A (boolVals l)) (hrb : Row w w.heap.size Bb (byteVals bl)) :
    Calls Tryd.prog 4 #[.slice A n c, .slice Bb m d] w fun e w' => e = .returned (.bool true) ∧ Below w.heap.size w w' := by
  have HT := Lib.hid hT
  have HL := Lib.hid hl
  have HBL := Lib.hid hbl
  have HX := Lib.hid hx
  have HR := Lib.hid hr
  have HRB := Lib.hid hrb
  have HM1 := Lib.hid (show n ≤ maxLen by omega)
  have HD1 := Lib.hid (show m ≤ d ∧ d ≤ maxLen from ⟨hmd, hd⟩)
  unfold maxLen at hc hd
  clear hT hl hbl hx hr hrb
  by_cases h300 : 300 < n
  · have hd1 : decide ((300 : Int) < n) = true := by simp; omega
    go_enter Tryd.func4, Tryd.ntmps4
    go_wp2_with (go_at_call 7; refine (alive05 _ HT.out).mono ?_; rintro e w1 ⟨rfl, hb⟩; have HB := Lib.hid hb; clear hb)
    go_ret
    exact ⟨rfl, HB.out⟩
  have hd1 : decide ((300 : Int) < n) = false := by simp; omega
  by_cases h600 : 600 < m
  · have hd2 : decide ((600 : Int) < m) = true := by simp; omega
    go_enter Tryd.func4, Tryd.ntmps4
    go_wp2_with (go_at_call 7; refine (alive05 _ HT.out).mono ?_; rintro e w1 ⟨rfl, hb⟩; have HB := Lib.hid hb; clear hb)
    go_ret
    exact ⟨rfl, HB.out⟩
  have hd2 : decide ((600 : Int) < m) = false := by simp; omega
  go_enter Tryd.func4, Tryd.ntmps4
  go_wp2_with fail
  refine (of_any A n c l w HL.out (by omega) HR.out).mono ?_
  rintro e w1 ⟨g, gw, ws, rfl, hM, _, _, hb1⟩
  have HM := Lib.hid hM
  have HB1 := Lib.hid hb1
  clear hM hb1
  go_wp2_with fail
  refine (bytes_any HM.out).mono ?_
  rintro e w2 ⟨A2, c2, rfl, hO2, hb2⟩
  have HO2 := Lib.hid hO2
  have HB2 := Lib.hid (HB1.out.trans (hb2.mono HB1.out.size))
  clear hO2 hb2
  go_wp2_with fail
  have hl4 : l.length ≤ 4096 := by rw [HL.out]; omega
  have hpb := parse_bytes l hl4
  have hbl2 := bytesOf_len l
  have hlt2 := bytesOf_lt l hl4
  refine (parse_any2 A2 (bytesOf l).length c2 (bytesOf l) w2 rfl HO2.out.cap (by rw [hbl2]; unfold maxLen; omega) hlt2 HO2.out.row).mono ?_
  rintro e w3 h3
  have h3' : ∃ g gw ws, e = .returned (.tuple #[.pointer (some ⟨g, 0, none⟩), .int .i64 0]) ∧ Bm w3 g gw ws l ∧ Below w2.heap.size w2 w3 := by
    rcases h3 with ⟨_, g, gw, ws, h1, h2, _, _, h4⟩ | ⟨h, _⟩
    · exact ⟨g, gw, ws, h1, by rw [hpb.2] at h2; exact h2, h4⟩
    · rw [hpb.1] at h; cases h
  clear h3 hpb hbl2 hlt2 hl4
  obtain ⟨g3, gw3, ws3, rfl, hM3, hb3⟩ := h3'
  have HM3 := Lib.hid hM3
  have HB3 := Lib.hid (HB2.out.trans (hb3.mono HB2.out.size))
  clear hM3 hb3
  go_wp2_with fail
  refine (bools_any HM3.out).mono ?_
  rintro e w4 ⟨A4, c4, rfl, hO4, hb4⟩
  have HO4 := Lib.hid hO4.row
  have HB4 := Lib.hid (HB3.out.trans (hb4.mono HB3.out.size))
  clear hO4 hb4
  go_wp2_with fail
  refine (truths_any A4 A l.length n c4 c l l w4 rfl HL.out (by rw [HL.out]; exact HM1.out) HM1.out HO4.out ((HR.out.below HB4.out).more HB4.out.size)).mono ?_
  rintro e w5 ⟨rfl, hb5⟩
  rw [decide_eq_true (rfl : l = l)]
  have HB5 := Lib.hid (HB4.out.trans (hb5.mono HB4.out.size))
  clear hb5
  go_wp2_with fail
  refine (parse_any Bb m d bl w5 HBL.out HD1.out.1 HD1.out.2 HX.out ((HRB.out.below HB5.out).more HB5.out.size)).mono ?_
  rintro e w6 h6
  rcases h6 with ⟨hp, g6, gw6, ws6, rfl, hM6, _, _, hb6⟩ | ⟨hp, rfl, hb6⟩
  · have HP := Lib.hid hp
    have HM6 := Lib.hid hM6
    have HB6 := Lib.hid (HB5.out.trans (hb6.mono HB5.out.size))
    clear hp hM6 hb6
    have CV0 : ∀ w', Below w6.heap.size w6 w' → (convert 23 9 (.slice Bb m d)).run Tryd.prog w' = .ok (.string (str bl)) w' := fun w' h => conv_row _ _ _ Tryd.underlying23 Tryd.underlying5 Tryd.underlying9 HBL.out ((HRB.out.below HB6.out).below (h.mono HB6.out.size))
    have HBP := Lib.hid (show bytesOf (parseL bl) = bl by
      have h := HP.out
      unfold parseB at h
      rw [Bool.and_eq_true] at h
      exact (bytes_parse HX.out h.1).2 h.2)
    go_wp2_with fail
    refine region_sch (fun w' => Below w6.heap.size w6 w') [([0, 3, 4], 1), ([2, 5, 6], 7)] [8, 9] (by kernel_rfl) (by kernel_rfl) (by kernel_rfl) (fun _ _ d _ _ h => by cases d <;> exact h) (Below.refl _ _).drew ?_
    (try simp only [Act.put, List.setIfInBounds_toArray, List.set_cons_zero, List.set_cons_succ]); refine sch_seg ?_; simp only [pickOps, List.getElem?_toArray, List.getElem?_cons_zero, List.getElem?_cons_succ]; (repeat (first | go_big_quiet_skip | (go_big_quiet_want; first | (go_big_quiet_op; first | go_big_quiet_on | ((first | with_reducible refine ⟨_, fun _ _ => rfl, ?_⟩); go_big_quiet_on)) | (simp (contextual := true) [go_sem, CV0]; with_reducible refine ⟨_, fun _ _ => rfl, ?_⟩; go_big_quiet_on)))); refine wpQuiet_nil ?_
    clear CV0
    go_wp2_with fail
    refine (bytes_any (w := w6.drew) (HM6.out.step (Below.refl _ _).drew)).mono ?_
    rintro e w7 ⟨A7, c7, rfl, hO7, hb7⟩
    replace hb7 := (Below.refl w6.heap.size w6).drew.trans hb7
    rw [HBP.out] at hO7
    rw [HBP.out]
    have HO7 := Lib.hid hO7.row
    have HB7 := Lib.hid hb7
    have CV7 : ∀ w', Below w7.heap.size w7 w' → (convert 23 9 (.slice A7 bl.length c7)).run Tryd.prog w' = .ok (.string (str bl)) w' := fun w' h => conv_row _ _ _ Tryd.underlying23 Tryd.underlying5 Tryd.underlying9 rfl (HO7.out.below h)
    clear hO7 hb7
    go_wp2_with fail
    refine sch_below (Below.refl _ _) (Nat.le_refl _) HB7.out ?_
    (try simp only [Act.put, List.setIfInBounds_toArray, List.set_cons_zero, List.set_cons_succ]); refine sch_seg ?_; simp only [pickOps, List.getElem?_toArray, List.getElem?_cons_zero, List.getElem?_cons_succ]; (repeat (first | go_big_quiet_skip | (go_big_quiet_want; first | (go_big_quiet_op; first | go_big_quiet_on | ((first | with_reducible refine ⟨_, fun _ _ => rfl, ?_⟩); go_big_quiet_on)) | (simp (contextual := true) [go_sem, CV7]; with_reducible refine ⟨_, fun _ _ => rfl, ?_⟩; go_big_quiet_on)))); refine wpQuiet_nil ?_
    clear CV7
    have HB67 := Lib.hid (HB6.out.trans (HB7.out.mono HB6.out.size))
    go_wp2_with fail
    refine (alive05 w7 (HT.out.step HB67.out)).mono ?_
    rintro e w8 ⟨rfl, hb8⟩
    have HB8 := Lib.hid hb8
    clear hb8
    go_wp2_with fail
    refine sch_next HB8.out ?_
    (try simp only [Act.put, List.setIfInBounds_toArray, List.set_cons_zero, List.set_cons_succ]); refine sch_end ?_; simp only [pickOps, List.getElem?_toArray, List.getElem?_cons_zero, List.getElem?_cons_succ]; (repeat (first | go_big_quiet_skip | (go_big_quiet_want; first | (go_big_quiet_op; first | go_big_quiet_on | ((first | with_reducible refine ⟨_, fun _ _ => rfl, ?_⟩); go_big_quiet_on)) | (simp (contextual := true) [go_sem, HB1]; with_reducible refine ⟨_, fun _ _ => rfl, ?_⟩; go_big_quiet_on)))); refine wpQuiet_nil ?_
    go_wp2_with fail
    go_ret
    exact ⟨rfl, HB67.out.trans (HB8.out.mono HB67.out.size)⟩
  · have HP := Lib.hid hp
    have HB6 := Lib.hid (HB5.out.trans (hb6.mono HB5.out.size))
    clear hp hb6
    go_wp2_with (go_at_call 7; refine (alive05 _ (HT.out.step HB6.out)).mono ?_; rintro e w7 ⟨rfl, hb⟩; have HB := Lib.hid hb; clear hb)
    go_ret
    exact ⟨rfl, HB6.out.trans (HB.out.mono HB6.out.size)⟩
end Go.Proofs.YtecigfjnpikbjaaDoor

/-
  Chapter 5: the law BitmapBytes returns true, whatever the truths and the bytes are. Condition: the library's table.
-/
import Derived.Test.YtecigfjnpikbjaaDoorBm12
namespace Go.Proofs.YtecigfjnpikbjaaDoor
open Go.RowKit
set_option maxHeartbeats 8000000 in
theorem bytes05 (A Bb : Option Addr) (n c m d : Nat) (l : List Bool) (bl : List Nat) (w : World) (hT : Tab w) (hl : l.length = n) (hnc : n ≤ c) (hc : c ≤ maxLen) (hbl : bl.length = m) (hmd : m ≤ d) (hd : d ≤ maxLen) (hx : ∀ x ∈ bl, x < 256) (hr : Row w w.heap.size A (boolVals l)) (hrb : Row w w.heap.size Bb (byteVals bl)) :
    Calls Tryd.prog 3 #[.slice A n c, .slice Bb m d] w fun e w' => e = .returned (.bool true) ∧ Below w.heap.size w w' := by
  have HT := Lib.hid hT
  have HL := Lib.hid hl
  have HBL := Lib.hid hbl
  have HX := Lib.hid hx
  have HR := Lib.hid hr
  have HRB := Lib.hid hrb
  have HM1 := Lib.hid (show n ≤ maxLen by omega)
  have HD1 := Lib.hid (show m ≤ d ∧ d ≤ maxLen from ⟨hmd, hd⟩)
  unfold maxLen at hc hd
  clear hT hl hbl hx hr hrb
  by_cases h300 : 300 < n
  · have hd1 : decide ((300 : Int) < n) = true := by simp; omega
    go_enter Tryd.func3, Tryd.ntmps3
    go_wp2_with (go_at_call 7; refine (alive05 _ HT.out).mono ?_; rintro e w1 ⟨rfl, hb⟩; have HB := Lib.hid hb; clear hb)
    go_ret
    exact ⟨rfl, HB.out⟩
  have hd1 : decide ((300 : Int) < n) = false := by simp; omega
  by_cases h600 : 600 < m
  · have hd2 : decide ((600 : Int) < m) = true := by simp; omega
    go_enter Tryd.func3, Tryd.ntmps3
    go_wp2_with (go_at_call 7; refine (alive05 _ HT.out).mono ?_; rintro e w1 ⟨rfl, hb⟩; have HB := Lib.hid hb; clear hb)
    go_ret
    exact ⟨rfl, HB.out⟩
  have hd2 : decide ((600 : Int) < m) = false := by simp; omega
  go_enter Tryd.func3, Tryd.ntmps3
  go_wp2_with fail
  refine (parse_any Bb m d bl w HBL.out HD1.out.1 HD1.out.2 HX.out HRB.out).mono ?_
  rintro e w1 h1
  rcases h1 with ⟨hp, g, gw, ws, rfl, hM, _, _, hb1⟩ | ⟨hp, rfl, hb1⟩
  · have HP := Lib.hid hp
    have HM := Lib.hid hM
    have HB1 := Lib.hid hb1
    clear hp hM hb1
    go_wp2_with fail
    refine (rparse_any Bb m d bl w1 HBL.out (Nat.le_trans HD1.out.1 HD1.out.2) HX.out ((HRB.out.below HB1.out).more HB1.out.size)).mono ?_
    rintro e w2 h2
    have h2' : ∃ A c, e = .returned (.tuple #[.slice A (parseN bl) c, .int .i64 0]) ∧ Row w2 w2.heap.size A (boolVals (parseL bl)) ∧ Below w1.heap.size w1 w2 := by
      rcases h2 with ⟨_, h⟩ | ⟨h, _⟩
      · exact h
      · rw [HP.out] at h; cases h
    clear h2
    obtain ⟨A2, c2, rfl, hr2, hb2⟩ := h2'
    have HR2 := Lib.hid hr2
    have HB2 := Lib.hid hb2
    clear hr2 hb2
    go_wp2_with fail
    refine region_sch (fun w' => Below w2.heap.size w2 w') [([0, 4], 1), ([], 2), ([3], 5), ([6, 7, 8, 9, 10, 11, 12, 13, 14, 16], 15), ([], 17), ([18, 19, 20, 21, 22, 23, 24, 25, 26], 27)] [28, 29] (by kernel_rfl) (by kernel_rfl) (by kernel_rfl) (fun _ _ d _ _ h => by cases d <;> exact h) (Below.refl _ _).drew ?_
    have HT0 := Lib.hid (HT.out.step (HB1.out.trans (HB2.out.mono HB1.out.size)))
    have HR0 := Lib.hid (show Row w2 w2.heap.size A (boolVals l) from (HR.out.below (HB1.out.trans (HB2.out.mono HB1.out.size))).more (HB1.out.trans (HB2.out.mono HB1.out.size)).size)
    (try simp only [Act.put, List.setIfInBounds_toArray, List.set_cons_zero, List.set_cons_succ]); refine sch_seg ?_; simp only [pickOps, List.getElem?_toArray, List.getElem?_cons_zero, List.getElem?_cons_succ]; (repeat (first | go_big_quiet_skip | (go_big_quiet_want; first | (go_big_quiet_op; first | go_big_quiet_on | ((first | with_reducible refine ⟨_, fun _ _ => rfl, ?_⟩); go_big_quiet_on)) | (simp (contextual := true) [go_sem, HB1]; with_reducible refine ⟨_, fun _ _ => rfl, ?_⟩; go_big_quiet_on)))); refine wpQuiet_nil ?_
    go_wp2_with fail
    refine (of_any A n c l w2.drew HL.out (by omega) (show Row w2.drew w2.drew.heap.size A (boolVals l) from HR0.out)).mono ?_
    rintro e w3 ⟨g3, gw3, ws3, rfl, hM3, _, _, hb3⟩
    replace hb3 := (Below.refl w2.heap.size w2).drew.trans hb3
    have HM3 := Lib.hid hM3
    have HB3 := Lib.hid hb3
    clear hM3 hb3
    go_wp2_with fail
    refine sch_below (Below.refl _ _) (Nat.le_refl _) HB3.out ?_
    (try simp only [Act.put, List.setIfInBounds_toArray, List.set_cons_zero, List.set_cons_succ]); refine sch_seg ?_; simp only [pickOps, List.getElem?_toArray, List.getElem?_cons_zero, List.getElem?_cons_succ]; (repeat (first | go_big_quiet_skip | (go_big_quiet_want; first | (go_big_quiet_op; first | go_big_quiet_on | ((first | with_reducible refine ⟨_, fun _ _ => rfl, ?_⟩); go_big_quiet_on)) | (simp (contextual := true) [go_sem, HB1]; with_reducible refine ⟨_, fun _ _ => rfl, ?_⟩; go_big_quiet_on)))); refine wpQuiet_nil ?_
    go_wp2_with fail
    refine (bytes_any HM3.out).mono ?_
    rintro e w4 ⟨A4, c4, rfl, hO4, hb4⟩
    have HB4 := Lib.hid hb4
    have CV4 : ∀ w', Below w4.heap.size w4 w' → (convert 23 9 (.slice A4 (bytesOf l).length c4)).run Tryd.prog w' = .ok (.string (str (bytesOf l))) w' := fun w' h => conv_row _ _ _ Tryd.underlying23 Tryd.underlying5 Tryd.underlying9 rfl (hO4.row.below h)
    clear hb4
    go_wp2_with fail
    refine sch_next HB4.out ?_
    (try simp only [Act.put, List.setIfInBounds_toArray, List.set_cons_zero, List.set_cons_succ]); refine sch_seg ?_; simp only [pickOps, List.getElem?_toArray, List.getElem?_cons_zero, List.getElem?_cons_succ]; (repeat (first | go_big_quiet_skip | (go_big_quiet_want; first | (go_big_quiet_op; first | go_big_quiet_on | ((first | with_reducible refine ⟨_, fun _ _ => rfl, ?_⟩); go_big_quiet_on)) | (simp (contextual := true) [go_sem, CV4]; with_reducible refine ⟨_, fun _ _ => rfl, ?_⟩; go_big_quiet_on)))); refine wpQuiet_nil ?_
    clear CV4 hO4
    go_wp2_with fail
    refine (rbytes_any A n c l w4 HL.out (by omega) ((HR0.out.below (HB3.out.trans (HB4.out.mono HB3.out.size))).more (HB3.out.trans (HB4.out.mono HB3.out.size)).size)).mono ?_
    rintro e w5 ⟨A5, c5, rfl, hO5, hb5⟩
    have HB5 := Lib.hid hb5
    have CV5 : ∀ w', Below w5.heap.size w5 w' → (convert 23 9 (.slice A5 (bytesOf l).length c5)).run Tryd.prog w' = .ok (.string (str (bytesOf l))) w' := fun w' h => conv_row _ _ _ Tryd.underlying23 Tryd.underlying5 Tryd.underlying9 rfl (hO5.row.below h)
    have HB25 := Lib.hid (show Below w2.heap.size w2 w5 from HB3.out.trans ((HB4.out.mono HB3.out.size).trans (hb5.mono (Nat.le_trans HB3.out.size HB4.out.size))))
    clear hb5
    go_wp2_with fail
    refine sch_next HB5.out ?_
    (try simp only [Act.put, List.setIfInBounds_toArray, List.set_cons_zero, List.set_cons_succ]); refine sch_seg ?_; simp only [pickOps, List.getElem?_toArray, List.getElem?_cons_zero, List.getElem?_cons_succ]; (repeat (first | go_big_quiet_skip | (go_big_quiet_want; first | (go_big_quiet_op; first | go_big_quiet_on | ((first | with_reducible refine ⟨_, fun _ _ => rfl, ?_⟩); go_big_quiet_on)) | (simp (contextual := true) [go_sem, CV5]; with_reducible refine ⟨_, fun _ _ => rfl, ?_⟩; go_big_quiet_on)))); refine wpQuiet_nil ?_
    clear CV5 hO5
    go_wp2_with fail
    refine (bools_any ((HM.out.step HB2.out).step HB25.out)).mono ?_
    rintro e w6 ⟨A6, c6, rfl, hO6, hb6⟩
    have HB6 := Lib.hid hb6
    have HO6 := Lib.hid hO6.row
    have HB26 := Lib.hid (HB25.out.trans (hb6.mono HB25.out.size))
    clear hb6 hO6
    go_wp2_with fail
    refine sch_next HB6.out ?_
    (try simp only [Act.put, List.setIfInBounds_toArray, List.set_cons_zero, List.set_cons_succ]); refine sch_seg ?_; simp only [pickOps, List.getElem?_toArray, List.getElem?_cons_zero, List.getElem?_cons_succ]; (repeat (first | go_big_quiet_skip | (go_big_quiet_want; first | (go_big_quiet_op; first | go_big_quiet_on | ((first | with_reducible refine ⟨_, fun _ _ => rfl, ?_⟩); go_big_quiet_on)) | (simp (contextual := true) [go_sem, HB1]; with_reducible refine ⟨_, fun _ _ => rfl, ?_⟩; go_big_quiet_on)))); refine wpQuiet_nil ?_
    go_wp2_with fail
    refine (truths_any A6 A2 (parseL bl).length (parseN bl) c6 c2 (parseL bl) (parseL bl) w6 rfl (parseL_len bl) (by have := HM.out.small; unfold maxLen; omega) (by have := HM.out.small; rw [parseL_len] at this; unfold maxLen; omega) HO6.out ((HR2.out.below HB26.out).more HB26.out.size)).mono ?_
    rintro e w7 ⟨rfl, hb7⟩
    rw [decide_eq_true (rfl : parseL bl = parseL bl)]
    have HB7 := Lib.hid hb7
    have HB27 := Lib.hid (HB26.out.trans (hb7.mono HB26.out.size))
    clear hb7
    go_wp2_with fail
    refine sch_next HB7.out ?_
    (try simp only [Act.put, List.setIfInBounds_toArray, List.set_cons_zero, List.set_cons_succ]); refine sch_seg ?_; simp only [pickOps, List.getElem?_toArray, List.getElem?_cons_zero, List.getElem?_cons_succ]; (repeat (first | go_big_quiet_skip | (go_big_quiet_want; first | (go_big_quiet_op; first | go_big_quiet_on | ((first | with_reducible refine ⟨_, fun _ _ => rfl, ?_⟩); go_big_quiet_on)) | (simp (contextual := true) [go_sem, HB1]; with_reducible refine ⟨_, fun _ _ => rfl, ?_⟩; go_big_quiet_on)))); refine wpQuiet_nil ?_
    go_wp2_with fail
    refine (alive05 w7 (HT0.out.step HB27.out)).mono ?_
    rintro e w8 ⟨rfl, hb8⟩
    have HB8 := Lib.hid hb8
    clear hb8
    go_wp2_with fail
    refine sch_next HB8.out ?_
    (try simp only [Act.put, List.setIfInBounds_toArray, List.set_cons_zero, List.set_cons_succ]); refine sch_end ?_; simp only [pickOps, List.getElem?_toArray, List.getElem?_cons_zero, List.getElem?_cons_succ]; (repeat (first | go_big_quiet_skip | (go_big_quiet_want; first | (go_big_quiet_op; first | go_big_quiet_on | ((first | with_reducible refine ⟨_, fun _ _ => rfl, ?_⟩); go_big_quiet_on)) | (simp (contextual := true) [go_sem, HB1]; with_reducible refine ⟨_, fun _ _ => rfl, ?_⟩; go_big_quiet_on)))); refine wpQuiet_nil ?_
    go_wp2_with fail
    go_ret
    exact ⟨rfl, HB1.out.trans ((HB2.out.mono HB1.out.size).trans ((HB27.out.mono (Nat.le_trans HB1.out.size HB2.out.size)).trans (HB8.out.mono (Nat.le_trans HB1.out.size (Nat.le_trans HB2.out.size HB27.out.size)))))⟩
  · have HP := Lib.hid hp
    have HB1 := Lib.hid hb1
    clear hp hb1
    go_wp2_with fail
    refine (rparse_any Bb m d bl w1 HBL.out (Nat.le_trans HD1.out.1 HD1.out.2) HX.out ((HRB.out.below HB1.out).more HB1.out.size)).mono ?_
    rintro e w2 h2
    have h2' : e = .returned (.tuple #[.slice none 0 0, .int .i64 4]) ∧ Below w1.heap.size w1 w2 := by
      rcases h2 with ⟨h, _⟩ | ⟨_, h⟩
      · rw [HP.out] at h; cases h
      · exact h
    clear h2
    obtain ⟨rfl, hb2⟩ := h2'
    have HB2 := Lib.hid hb2
    clear hb2
    go_wp2_with fail
    refine region_sch (fun w' => Below w2.heap.size w2 w') [([0, 4], 1), ([], 2), ([3], 5), ([6, 7, 8, 9, 10, 11, 12, 13, 14, 16], 15), ([], 17), ([18, 19, 20, 21, 22, 23, 24, 25, 26], 27)] [28, 29] (by kernel_rfl) (by kernel_rfl) (by kernel_rfl) (fun _ _ d _ _ h => by cases d <;> exact h) (Below.refl _ _).drew ?_
    have HT0 := Lib.hid (HT.out.step (HB1.out.trans (HB2.out.mono HB1.out.size)))
    have HR0 := Lib.hid (show Row w2 w2.heap.size A (boolVals l) from (HR.out.below (HB1.out.trans (HB2.out.mono HB1.out.size))).more (HB1.out.trans (HB2.out.mono HB1.out.size)).size)
    (try simp only [Act.put, List.setIfInBounds_toArray, List.set_cons_zero, List.set_cons_succ]); refine sch_seg ?_; simp only [pickOps, List.getElem?_toArray, List.getElem?_cons_zero, List.getElem?_cons_succ]; (repeat (first | go_big_quiet_skip | (go_big_quiet_want; first | (go_big_quiet_op; first | go_big_quiet_on | ((first | with_reducible refine ⟨_, fun _ _ => rfl, ?_⟩); go_big_quiet_on)) | (simp (contextual := true) [go_sem, HB1]; with_reducible refine ⟨_, fun _ _ => rfl, ?_⟩; go_big_quiet_on)))); refine wpQuiet_nil ?_
    go_wp2_with fail
    refine (of_any A n c l w2.drew HL.out (by omega) (show Row w2.drew w2.drew.heap.size A (boolVals l) from HR0.out)).mono ?_
    rintro e w3 ⟨g3, gw3, ws3, rfl, hM3, _, _, hb3⟩
    replace hb3 := (Below.refl w2.heap.size w2).drew.trans hb3
    have HM3 := Lib.hid hM3
    have HB3 := Lib.hid hb3
    clear hM3 hb3
    go_wp2_with fail
    refine sch_below (Below.refl _ _) (Nat.le_refl _) HB3.out ?_
    (try simp only [Act.put, List.setIfInBounds_toArray, List.set_cons_zero, List.set_cons_succ]); refine sch_seg ?_; simp only [pickOps, List.getElem?_toArray, List.getElem?_cons_zero, List.getElem?_cons_succ]; (repeat (first | go_big_quiet_skip | (go_big_quiet_want; first | (go_big_quiet_op; first | go_big_quiet_on | ((first | with_reducible refine ⟨_, fun _ _ => rfl, ?_⟩); go_big_quiet_on)) | (simp (contextual := true) [go_sem, HB1]; with_reducible refine ⟨_, fun _ _ => rfl, ?_⟩; go_big_quiet_on)))); refine wpQuiet_nil ?_
    go_wp2_with fail
    refine (bytes_any HM3.out).mono ?_
    rintro e w4 ⟨A4, c4, rfl, hO4, hb4⟩
    have HB4 := Lib.hid hb4
    have CV4 : ∀ w', Below w4.heap.size w4 w' → (convert 23 9 (.slice A4 (bytesOf l).length c4)).run Tryd.prog w' = .ok (.string (str (bytesOf l))) w' := fun w' h => conv_row _ _ _ Tryd.underlying23 Tryd.underlying5 Tryd.underlying9 rfl (hO4.row.below h)
    clear hb4
    go_wp2_with fail
    refine sch_next HB4.out ?_
    (try simp only [Act.put, List.setIfInBounds_toArray, List.set_cons_zero, List.set_cons_succ]); refine sch_seg ?_; simp only [pickOps, List.getElem?_toArray, List.getElem?_cons_zero, List.getElem?_cons_succ]; (repeat (first | go_big_quiet_skip | (go_big_quiet_want; first | (go_big_quiet_op; first | go_big_quiet_on | ((first | with_reducible refine ⟨_, fun _ _ => rfl, ?_⟩); go_big_quiet_on)) | (simp (contextual := true) [go_sem, CV4]; with_reducible refine ⟨_, fun _ _ => rfl, ?_⟩; go_big_quiet_on)))); refine wpQuiet_nil ?_
    clear CV4 hO4
    go_wp2_with fail
    refine (rbytes_any A n c l w4 HL.out (by omega) ((HR0.out.below (HB3.out.trans (HB4.out.mono HB3.out.size))).more (HB3.out.trans (HB4.out.mono HB3.out.size)).size)).mono ?_
    rintro e w5 ⟨A5, c5, rfl, hO5, hb5⟩
    have HB5 := Lib.hid hb5
    have CV5 : ∀ w', Below w5.heap.size w5 w' → (convert 23 9 (.slice A5 (bytesOf l).length c5)).run Tryd.prog w' = .ok (.string (str (bytesOf l))) w' := fun w' h => conv_row _ _ _ Tryd.underlying23 Tryd.underlying5 Tryd.underlying9 rfl (hO5.row.below h)
    have HB25 := Lib.hid (show Below w2.heap.size w2 w5 from HB3.out.trans ((HB4.out.mono HB3.out.size).trans (hb5.mono (Nat.le_trans HB3.out.size HB4.out.size))))
    clear hb5
    go_wp2_with fail
    refine sch_next HB5.out ?_
    (try simp only [Act.put, List.setIfInBounds_toArray, List.set_cons_zero, List.set_cons_succ]); refine sch_seg ?_; simp only [pickOps, List.getElem?_toArray, List.getElem?_cons_zero, List.getElem?_cons_succ]; (repeat (first | go_big_quiet_skip | (go_big_quiet_want; first | (go_big_quiet_op; first | go_big_quiet_on | ((first | with_reducible refine ⟨_, fun _ _ => rfl, ?_⟩); go_big_quiet_on)) | (simp (contextual := true) [go_sem, CV5]; with_reducible refine ⟨_, fun _ _ => rfl, ?_⟩; go_big_quiet_on)))); refine wpQuiet_nil ?_
    clear CV5 hO5
    go_wp2_with fail
    refine (bools_nil w5).mono ?_
    rintro e w6 ⟨rfl, rfl⟩
    have HB26 := HB25
    go_wp2_with fail
    refine sch_next (Below.refl _ _) ?_
    (try simp only [Act.put, List.setIfInBounds_toArray, List.set_cons_zero, List.set_cons_succ]); refine sch_seg ?_; simp only [pickOps, List.getElem?_toArray, List.getElem?_cons_zero, List.getElem?_cons_succ]; (repeat (first | go_big_quiet_skip | (go_big_quiet_want; first | (go_big_quiet_op; first | go_big_quiet_on | ((first | with_reducible refine ⟨_, fun _ _ => rfl, ?_⟩); go_big_quiet_on)) | (simp (contextual := true) [go_sem, HB1]; with_reducible refine ⟨_, fun _ _ => rfl, ?_⟩; go_big_quiet_on)))); refine wpQuiet_nil ?_
    go_wp2_with fail
    refine (truths_any none none 0 0 0 0 [] [] w5 rfl rfl (by unfold maxLen; omega) (by unfold maxLen; omega) Row.nil Row.nil).mono ?_
    rintro e w7 ⟨rfl, hb7⟩
    rw [decide_eq_true (rfl : ([] : List Bool) = [])]
    have HB7 := Lib.hid hb7
    have HB27 := Lib.hid (HB26.out.trans (hb7.mono HB26.out.size))
    clear hb7
    go_wp2_with fail
    refine sch_next HB7.out ?_
    (try simp only [Act.put, List.setIfInBounds_toArray, List.set_cons_zero, List.set_cons_succ]); refine sch_seg ?_; simp only [pickOps, List.getElem?_toArray, List.getElem?_cons_zero, List.getElem?_cons_succ]; (repeat (first | go_big_quiet_skip | (go_big_quiet_want; first | (go_big_quiet_op; first | go_big_quiet_on | ((first | with_reducible refine ⟨_, fun _ _ => rfl, ?_⟩); go_big_quiet_on)) | (simp (contextual := true) [go_sem, HB1]; with_reducible refine ⟨_, fun _ _ => rfl, ?_⟩; go_big_quiet_on)))); refine wpQuiet_nil ?_
    go_wp2_with fail
    refine (alive05 w7 (HT0.out.step HB27.out)).mono ?_
    rintro e w8 ⟨rfl, hb8⟩
    have HB8 := Lib.hid hb8
    clear hb8
    go_wp2_with fail
    refine sch_next HB8.out ?_
    (try simp only [Act.put, List.setIfInBounds_toArray, List.set_cons_zero, List.set_cons_succ]); refine sch_end ?_; simp only [pickOps, List.getElem?_toArray, List.getElem?_cons_zero, List.getElem?_cons_succ]; (repeat (first | go_big_quiet_skip | (go_big_quiet_want; first | (go_big_quiet_op; first | go_big_quiet_on | ((first | with_reducible refine ⟨_, fun _ _ => rfl, ?_⟩); go_big_quiet_on)) | (simp (contextual := true) [go_sem, HB1]; with_reducible refine ⟨_, fun _ _ => rfl, ?_⟩; go_big_quiet_on)))); refine wpQuiet_nil ?_
    go_wp2_with fail
    go_ret
    exact ⟨rfl, HB1.out.trans ((HB2.out.mono HB1.out.size).trans ((HB27.out.mono (Nat.le_trans HB1.out.size HB2.out.size)).trans (HB8.out.mono (Nat.le_trans HB1.out.size (Nat.le_trans HB2.out.size HB27.out.size)))))⟩
end Go.Proofs.YtecigfjnpikbjaaDoor

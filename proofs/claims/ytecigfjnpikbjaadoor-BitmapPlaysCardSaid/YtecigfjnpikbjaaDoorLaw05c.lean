/-
  Chapter 5: the law BitmapPlays returns true, whatever the truths and acts are. Condition: the library's table.
-/
import Derived.Test.YtecigfjnpikbjaaDoorRal05
import Derived.Test.YtecigfjnpikbjaaDoorSameB
import Derived.Test.YtecigfjnpikbjaaDoorSiz05
import Derived.Test.YtecigfjnpikbjaaDoorOpen
namespace Go.Proofs.YtecigfjnpikbjaaDoor
open Go.RowKit
/-- A cell of an own row written. -/
theorem own_put {w : World} {base : Nat} {e : TypeId} {gx n c k : Nat} {xs : List Value} {v : Value} (h : Own w base e 1 (some ⟨gx, 0, none⟩) n c xs) (hk : k < n) : Own (w.setCell ⟨gx, k, none⟩ v) base e 1 (some ⟨gx, 0, none⟩) n c (xs.set k v) := by
  refine ⟨by rw [List.length_set]; exact h.1, ?_⟩
  rcases h.2 with ⟨hv, h0⟩ | ⟨g, cap, cur, hv, hbg, hh, hnc, hcm, hcs, htk⟩
  · omega
  · have e1 : gx = g := by injection hv with h1; injection h1 with h1; injection h1
    subst e1
    right
    refine ⟨gx, cap, cur.setIfInBounds k v, hv, hbg, Blk.set_ (show Blk w gx e cur from hh) k v, hnc, hcm, by rw [Array.size_setIfInBounds]; exact hcs, ?_⟩
    rw [← htk, Array.toList_setIfInBounds, List.take_set]
theorem own_at {w : World} {base : Nat} {e : TypeId} {n c k : Nat} {A : Option Addr} {xs : List Value} {v : Value} (h : Own w base e 1 A n c xs) (hv : xs[k]? = some v) : ∃ gx, A = some ⟨gx, 0, none⟩ ∧ base ≤ gx ∧ gx < w.heap.size ∧ w.cell? ⟨gx, k, none⟩ = some v ∧ w.frozen? ⟨gx, k, none⟩ = false ∧ n ≤ c := by
  have hk : k < xs.length := (List.getElem?_eq_some_iff.1 hv).1
  have hl := h.1
  rcases h.2 with ⟨_, h0⟩ | ⟨g, cap, cur, hs, hbg, hh, hnc, hcm, hcs, htk⟩
  · omega
  · injection hs with h1 h2 h3
    have hB : Blk w g e cur := hh
    refine ⟨g, h1, hbg, hB.lt, ?_, hB.frozen k, by omega⟩
    rw [hB.cell k, ← Array.getElem?_toList]
    rw [← htk, List.getElem?_take_of_lt (by omega)] at hv
    exact hv
def actVals (a : Int × Int) : List Value := [.int .i64 a.1, .int .i64 a.2]
theorem actVals_len (a : Int × Int) : (actVals a).length = 2 := rfl
theorem act_cells {w : World} {B : Nat} {A : Option Addr} {l : List (Int × Int)} (h : Row w B A (l.flatMap actVals)) (k : Nat) (hk : k < l.length) :
    ∃ b off, A = some ⟨b, off, none⟩ ∧ b < B ∧ w.cell? ⟨b, off + k * 2, none⟩ = some (.int .i64 l[k].1) ∧ w.cell? ⟨b, off + k * 2 + 1, none⟩ = some (.int .i64 l[k].2) := by
  obtain ⟨b, off, e, hb, hc⟩ := h.at_ (k := k * 2) (by rw [flat_length actVals_len]; omega)
  exact ⟨b, off, e, hb, hc _ _ (flat_at actVals_len l k 0 _ _ (List.getElem?_eq_getElem hk) rfl), by rw [Nat.add_assoc]; exact hc _ _ (flat_at actVals_len l k 1 _ _ (List.getElem?_eq_getElem hk) rfl)⟩
theorem Bm.far {w : World} {g gw : Nat} {ws : List Nat} {bs : List Bool} (M : Bm w g gw ws bs) {p : Addr} (h1 : g ≠ p.block) (h2 : gw ≠ p.block) (v : Value) : Bm (w.setCell p v) g gw ws bs := ⟨M.ok, M.blk.far h1 v, M.row.far h2 v, M.ne, M.small⟩
theorem hasB_in {bs : List Bool} {j : Nat} (hj : j < bs.length) : hasB bs (j : Int) = bs[j] := by simp [hasB, hj]
theorem turnL_in {bs : List Bool} {j : Nat} (to : Bool) (hj : j < bs.length) : turnL bs (j : Int) to = bs.set j to := by
  unfold turnL
  rw [if_pos ⟨by omega, by omega⟩]
  rfl
theorem turnL_out {bs : List Bool} {i : Int} (to : Bool) (h : ¬ (0 ≤ i ∧ i < bs.length)) : turnL bs i to = bs := by unfold turnL; rw [if_neg h]
theorem hasB_set {bs : List Bool} {j : Nat} (to : Bool) (hj : j < bs.length) : hasB (bs.set j to) (j : Int) = to := by
  rw [hasB_in (by simpa using hj)]
  simp
theorem boolVals_set (bs : List Bool) (j : Nat) (to : Bool) : boolVals (bs.set j to) = (boolVals bs).set j (.bool to) := by unfold boolVals; rw [List.map_set]
theorem of_big (A : Option Addr) (n c : Nat) (w : World) (hn : 4096 < n) (hm : n ≤ maxLen) : Calls Tryd.prog 10 #[.slice A n c] w fun e w' => e = .returned (.pointer none) ∧ w = w' := by
  unfold maxLen at hm
  go_enter Tryd.func10, Tryd.ntmps10
  go_wp2_with fail
  refine (new_bad n (.inr (by omega)) w).mono ?_
  rintro e w1 ⟨rfl, rfl⟩
  go_wp2_with fail
  go_ret
  exact ⟨rfl, rfl⟩
theorem own_stepB {w w' : World} {base : Nat} {e : TypeId} {size n c : Nat} {A : Option Addr} {xs : List Value} (ho : Own w base e size A n c xs) (hb : Below w.heap.size w w') : Own w' base e size A n c xs := by
  refine ⟨ho.1, ?_⟩
  rcases ho.2 with hv | ⟨k, cap, cur, hv, hbg, hh, hr⟩
  · exact .inl hv
  · have hk : k < w.heap.size := by
      rcases Nat.lt_or_ge k w.heap.size with h | h
      · exact h
      · rw [Array.getElem?_eq_none h] at hh; cases hh
    exact .inr ⟨k, cap, cur, hv, hbg, (hb.block k hk).trans hh, hr⟩
set_option maxHeartbeats 8000000 in
set_option maxRecDepth 100000 in
theorem plays05 (A Ba : Option Addr) (n c na ca : Nat) (l : List Bool) (acts : List (Int × Int)) (i : Int) (w : World) (hT : Tab w) (hl : l.length = n) (hnc : n ≤ c) (hcm : c ≤ maxLen) (hal : acts.length = na) (hac : na ≤ ca) (_ham : ca ≤ maxLen) (hr : Row w w.heap.size A (boolVals l)) (hra : Row w w.heap.size Ba (acts.flatMap actVals)) :
    Calls Tryd.prog 5 #[.slice A n c, .slice Ba na ca, .int .i64 i] w fun e w' => e = .returned (.bool true) ∧ Below w.heap.size w w' := by
  have HT := Lib.hid hT
  have HL := Lib.hid hl
  have HR := Lib.hid hr
  have HAL := Lib.hid hal
  have HRA := Lib.hid hra
  have HNM := Lib.hid (show n ≤ maxLen by omega)
  unfold maxLen at hcm _ham
  clear hT hl hr hal hra
  by_cases h300 : 300 < n
  · have hd1 : decide ((300 : Int) < n) = true := by simp; omega
    by_cases hb : 4096 < n
    · have hd2 : decide ((n : Int) ≤ 4096) = false := by simp; omega
      go_enter Tryd.func5, Tryd.ntmps5
      go_wp2_with (first | (go_at_call 10; refine (of_big A n c _ hb HNM.out).mono ?_; rintro e w1 ⟨rfl, rfl⟩) | (go_at_call 7; refine (alive05 _ HT.out).mono ?_; rintro e w1 ⟨rfl, hb⟩; have HB := Lib.hid hb; clear hb))
      go_ret
      exact ⟨rfl, HB.out⟩
    · have hd2 : decide ((n : Int) ≤ 4096) = true := by simp; omega
      go_enter Tryd.func5, Tryd.ntmps5
      go_wp2_with (go_at_call 7; refine (alive05 _ HT.out).mono ?_; rintro e w1 ⟨rfl, hb⟩; have HB := Lib.hid hb; clear hb)
      go_ret
      exact ⟨rfl, HB.out⟩
  have hd1 : decide ((300 : Int) < n) = false := by simp; omega
  by_cases h60 : 60 < na
  · have hd2 : decide ((60 : Int) < na) = true := by simp; omega
    have hd3 : decide ((n : Int) ≤ 4096) = true := by simp; omega
    go_enter Tryd.func5, Tryd.ntmps5
    go_wp2_with (go_at_call 7; refine (alive05 _ HT.out).mono ?_; rintro e w1 ⟨rfl, hb⟩; have HB := Lib.hid hb; clear hb)
    go_ret
    exact ⟨rfl, HB.out⟩
  have hd2 : decide ((60 : Int) < na) = false := by simp; omega
  obtain ⟨i0, hi, hz0, hz1, hz2⟩ := info_parts Tryd.infoBool
  have HI := Lib.hid hi
  have HZ0 := Lib.hid hz0
  have HZ1 := Lib.hid hz1
  have HZ2 := Lib.hid hz2
  clear hi hz0 hz1 hz2
  go_enter Tryd.func5, Tryd.ntmps5
  go_wp2_with fail
  refine (of_any A n c l w HL.out (by omega) HR.out).mono ?_
  rintro e w1 ⟨g, gw, ws1, rfl, hM1, hg1, hg2, hb1⟩
  have HM1 := Lib.hid hM1
  have HB1 := Lib.hid hb1
  have HG := Lib.hid (show w.heap.size ≤ gw from hg2)
  have hz1 : w.heap.size ≤ w1.heap.size := hb1.size
  have hln : (boolVals l).length = n * 1 := by simp [boolVals, HL.out]
  have HLN := Lib.hid hln
  have HRW := Lib.hid (show Row (w1.alloc (.cells #[] 4)) w.heap.size A (boolVals l) from HR.out.below (hb1.alloc hz1 _))
  have h1c : ∀ u ∈ boolVals l, u.oneCell' = true := by
    intro u hu
    unfold boolVals at hu
    rw [List.mem_map] at hu
    obtain ⟨y, _, rfl⟩ := hu
    rfl
  have H1C := Lib.hid h1c
  clear hM1 hb1 hg1 hg2 hln h1c
  go_wp2_with (at_builtin; go_must (refine wpList_append_row _ rfl _ _ 22 rfl w1.heap.size 4 i0 _ 1 1 Tryd.underlying22 HI.out HZ0.out HZ1.out HZ2.out rfl (by decide) _ 0 0 [] rfl (World.ownsRow_made w1 #[] 0 (Nat.le_refl _) (Nat.zero_le _) (by simp)) A n c w.heap.size (boolVals l) rfl HLN.out HRW.out H1C.out (by unfold maxLen; omega) (by omega) (by rw [World.size_alloc]; omega) ?_); intro X cx w2 hown hgrow hat; simp only [Nat.zero_add, List.nil_append] at hown ⊢)
  have hg0 : w1.grownBy w2 none := grown_made hgrow
  have HM2 := Lib.hid (show Bm w2 g gw ws1 l from ⟨HM1.out.ok, HM1.out.blk.grown hg0 (by simp), HM1.out.row.grown hg0 (by simp), HM1.out.ne, HM1.out.small⟩)
  have HB2 := Lib.hid (HB1.out.grown hg0 hz1 (fun k e => by cases e))
  have HO2 := Lib.hid hown
  have hgl : g < w1.heap.size := HM1.out.blk.lt
  have hgwl : gw < w1.heap.size := HM1.out.row.lt
  clear hown hgrow hat hg0
  go_loopw [9] (fun vi wr => ∃ (k : Nat) (xs : List Bool) (ws : List Nat), k ≤ na ∧ vi = .int .i64 k ∧ Hid (xs.length = n ∧ Bm wr g gw ws xs ∧ Own wr w1.heap.size 4 1 X n cx (boolVals xs) ∧ Below w.heap.size w wr)) (fun vi _ => na - (intOf vi).toNat)
  case atStart => exact ⟨0, l, ws1, Nat.zero_le _, rfl, HL.out, HM2.out, HO2.out, HB2.out⟩
  case round =>
    obtain ⟨k, xs, ws, hk, rfl, HALL⟩ := hrel
    have HXL := Lib.hid HALL.out.1
    have HM := Lib.hid HALL.out.2.1
    have HO := Lib.hid HALL.out.2.2.1
    have HB := Lib.hid HALL.out.2.2.2
    clear HALL
    by_cases hlt : k < na
    · have hka : k < acts.length := by rw [HAL.out]; exact hlt
      obtain ⟨b, off, rfl, hbl, hc0, hc1⟩ := act_cells HRA.out k hka
      generalize acts[k] = act at *
      obtain ⟨kind, a⟩ := act
      simp only at hc0 hc1
      have F0 : ∀ w', Below wr.heap.size wr w' → w'.cell? ⟨b, off + k * 2, none⟩ = some (.int .i64 kind) := fun w' h => (h.cell (p := ⟨b, off + k * 2, none⟩) (Nat.lt_of_lt_of_le hbl HB.out.size)).trans ((HB.out.cell (p := ⟨b, off + k * 2, none⟩) hbl).trans hc0)
      have F1 : ∀ w', Below wr.heap.size wr w' → w'.cell? ⟨b, off + k * 2 + 1, none⟩ = some (.int .i64 a) := fun w' h => (h.cell (p := ⟨b, off + k * 2 + 1, none⟩) (Nat.lt_of_lt_of_le hbl HB.out.size)).trans ((HB.out.cell (p := ⟨b, off + k * 2 + 1, none⟩) hbl).trans hc1)
      go_wp2_with fail
      refine region_below wr wr.heap.size (by kernel_rfl) (by kernel_rfl) (Below.refl _ _) ?_
      repeat (first | go_big_quiet_skip | (go_big_quiet_want; first | (go_big_quiet_op; first | go_big_quiet_on | ((first | with_reducible refine ⟨_, fun _ _ => rfl, ?_⟩); go_big_quiet_on)) | (simp (contextual := true) [go_sem, F0, F1]; with_reducible refine ⟨_, fun _ _ => rfl, ?_⟩; go_big_quiet_on)))
      refine wpQuiet_nil ?_
      intro wa hwa
      clear F0 F1 hc0 hc1
      replace HM := Lib.hid (HM.out.step hwa)
      replace HO := Lib.hid (own_stepB HO.out hwa)
      replace HB := Lib.hid (HB.out.trans (hwa.mono HB.out.size))
      clear hwa
      have hthere : (∃ j : Nat, a = j ∧ j < n) ∨ (0 ≤ a ∧ (n : Int) ≤ a) ∨ a < 0 := by
        by_cases h0 : 0 ≤ a
        · by_cases h1 : a < n
          · exact .inl ⟨a.toNat, by omega, by omega⟩
          · exact .inr (.inl ⟨h0, by omega⟩)
        · exact .inr (.inr (by omega))
      have hkind : kind = 0 ∨ (kind == 0) = false := by
        by_cases h : kind = 0
        · exact .inl h
        · exact .inr (by simpa using h)
      rcases hkind with rfl | hkd
      · rcases hthere with ⟨j, rfl, hj⟩ | ⟨ha0, ha1⟩ | ha0
        · have hj2 : j < xs.length := by rw [HXL.out]; exact hj
          obtain ⟨gx, rfl, hgx, hgx2, hcx, hfx, hnx⟩ := own_at (k := j) HO.out (boolVals_at xs j hj2)
          have HHB := Lib.hid (hasB_in hj2)
          generalize xs[j] = x at *
          cases x with
          | true =>
            go_wp2_with fail
            refine (set_any (j : Int) HM.out).mono ?_
            rintro e wb ⟨rfl, ws2, hM2, hgr, hsz⟩
            rw [turnL_in true hj2] at hM2
            rw [HHB.out, decide_eq_true (show (0 : Int) ≤ (j : Int) ∧ (j : Int) < (xs.length : Int) by omega)]
            have hO3 := HO.out.kept hgr (HO.out.ne_lt hgwl)
            have hcb : wb.cell? ⟨gx, j, none⟩ = some (.bool true) := (World.cell?_of_block (hgr.block gx (by omega) (by intro h; injection h with h; omega))).trans hcx
            have hfb : wb.frozen? ⟨gx, j, none⟩ = false := (World.frozen?_of_block (hgr.block gx (by omega) (by intro h; injection h with h; omega))).trans hfx
            have HM3 := Lib.hid (hM2.far (p := ⟨gx, j, none⟩) (by show g ≠ gx; omega) (by show gw ≠ gx; omega) (.bool true))
            have HO3 := Lib.hid (show Own (wb.setCell ⟨gx, j, none⟩ (.bool true)) w1.heap.size 4 1 (some ⟨gx, 0, none⟩) n cx (boolVals (xs.set j true)) from by rw [boolVals_set]; exact own_put hO3 hj)
            have HB3 := Lib.hid ((HB.out.grown hgr HB.out.size (fun k e => by cases e; exact HG.out)).setCell (p := ⟨gx, j, none⟩) (by show _ ≤ gx; omega) (.bool true))
            clear hM2 hgr hsz hO3 hcx hfx
            go_wp2_with fail
            refine (has_any (j : Int) HM3.out).mono ?_
            rintro e wc ⟨rfl, rfl⟩
            rw [hasB_set true hj2]
            go_wp2_with fail
            go_roundw
            case rel => exact ⟨k + 1, xs.set j true, ws2, by omega, by go_num, by rw [List.length_set]; exact HXL.out, HM3.out, HO3.out, HB3.out⟩
            case measure => simp [intOf]; omega
          | false =>
            go_wp2_with fail
            refine (set_any (j : Int) HM.out).mono ?_
            rintro e wb ⟨rfl, ws2, hM2, hgr, hsz⟩
            rw [turnL_in true hj2] at hM2
            rw [HHB.out, decide_eq_true (show (0 : Int) ≤ (j : Int) ∧ (j : Int) < (xs.length : Int) by omega)]
            have hO3 := HO.out.kept hgr (HO.out.ne_lt hgwl)
            have hcb : wb.cell? ⟨gx, j, none⟩ = some (.bool false) := (World.cell?_of_block (hgr.block gx (by omega) (by intro h; injection h with h; omega))).trans hcx
            have hfb : wb.frozen? ⟨gx, j, none⟩ = false := (World.frozen?_of_block (hgr.block gx (by omega) (by intro h; injection h with h; omega))).trans hfx
            have HM3 := Lib.hid (hM2.far (p := ⟨gx, j, none⟩) (by show g ≠ gx; omega) (by show gw ≠ gx; omega) (.bool true))
            have HO3 := Lib.hid (show Own (wb.setCell ⟨gx, j, none⟩ (.bool true)) w1.heap.size 4 1 (some ⟨gx, 0, none⟩) n cx (boolVals (xs.set j true)) from by rw [boolVals_set]; exact own_put hO3 hj)
            have HB3 := Lib.hid ((HB.out.grown hgr HB.out.size (fun k e => by cases e; exact HG.out)).setCell (p := ⟨gx, j, none⟩) (by show _ ≤ gx; omega) (.bool true))
            clear hM2 hgr hsz hO3 hcx hfx
            go_wp2_with fail
            refine (has_any (j : Int) HM3.out).mono ?_
            rintro e wc ⟨rfl, rfl⟩
            rw [hasB_set true hj2]
            go_wp2_with fail
            go_roundw
            case rel => exact ⟨k + 1, xs.set j true, ws2, by omega, by go_num, by rw [List.length_set]; exact HXL.out, HM3.out, HO3.out, HB3.out⟩
            case measure => simp [intOf]; omega
        · have hq1 : decide (a < (n : Int)) = false := by simp; omega
          go_wp2_with fail
          refine (set_any a HM.out).mono ?_
          rintro e wb ⟨rfl, ws2, hM2, hgr, hsz⟩
          rw [turnL_out true (by rw [HXL.out]; omega)] at hM2
          rw [decide_eq_false (show ¬ ((0 : Int) ≤ a ∧ a < (xs.length : Int)) by rw [HXL.out]; omega), Bool.false_and]
          have HO3 := Lib.hid (HO.out.kept hgr (HO.out.ne_lt hgwl))
          have HM3 := Lib.hid hM2
          have HB3 := Lib.hid (HB.out.grown hgr HB.out.size (fun k e => by cases e; exact HG.out))
          clear hM2 hgr hsz
          go_wp2_with fail
          refine (has_any a HM3.out).mono ?_
          rintro e wc ⟨rfl, rfl⟩
          rw [hasB_out xs a (by rw [HXL.out]; omega)]
          go_wp2_with fail
          go_roundw
          case rel => exact ⟨k + 1, xs, ws2, by omega, by go_num, HXL.out, HM3.out, HO3.out, HB3.out⟩
          case measure => simp [intOf]; omega
        · have hq1 : decide (0 ≤ a) = false := by simp; omega
          go_wp2_with fail
          refine (set_any a HM.out).mono ?_
          rintro e wb ⟨rfl, ws2, hM2, hgr, hsz⟩
          rw [turnL_out true (by rw [HXL.out]; omega)] at hM2
          rw [decide_eq_false (show ¬ ((0 : Int) ≤ a ∧ a < (xs.length : Int)) by rw [HXL.out]; omega), Bool.false_and]
          have HO3 := Lib.hid (HO.out.kept hgr (HO.out.ne_lt hgwl))
          have HM3 := Lib.hid hM2
          have HB3 := Lib.hid (HB.out.grown hgr HB.out.size (fun k e => by cases e; exact HG.out))
          clear hM2 hgr hsz
          go_wp2_with fail
          refine (has_any a HM3.out).mono ?_
          rintro e wc ⟨rfl, rfl⟩
          rw [hasB_out xs a (by rw [HXL.out]; omega)]
          go_wp2_with fail
          go_roundw
          case rel => exact ⟨k + 1, xs, ws2, by omega, by go_num, HXL.out, HM3.out, HO3.out, HB3.out⟩
          case measure => simp [intOf]; omega
      · rcases hthere with ⟨j, rfl, hj⟩ | ⟨ha0, ha1⟩ | ha0
        · have hj2 : j < xs.length := by rw [HXL.out]; exact hj
          obtain ⟨gx, rfl, hgx, hgx2, hcx, hfx, hnx⟩ := own_at (k := j) HO.out (boolVals_at xs j hj2)
          have HHB := Lib.hid (hasB_in hj2)
          generalize xs[j] = x at *
          cases x with
          | true =>
            go_wp2_with fail
            refine (clear_any (j : Int) HM.out).mono ?_
            rintro e wb ⟨rfl, ws2, hM2, hgr, hsz⟩
            rw [turnL_in false hj2] at hM2
            rw [HHB.out]
            have hO3 := HO.out.kept hgr (HO.out.ne_lt hgwl)
            have hcb : wb.cell? ⟨gx, j, none⟩ = some (.bool true) := (World.cell?_of_block (hgr.block gx (by omega) (by intro h; injection h with h; omega))).trans hcx
            have hfb : wb.frozen? ⟨gx, j, none⟩ = false := (World.frozen?_of_block (hgr.block gx (by omega) (by intro h; injection h with h; omega))).trans hfx
            have HM3 := Lib.hid (hM2.far (p := ⟨gx, j, none⟩) (by show g ≠ gx; omega) (by show gw ≠ gx; omega) (.bool false))
            have HO3 := Lib.hid (show Own (wb.setCell ⟨gx, j, none⟩ (.bool false)) w1.heap.size 4 1 (some ⟨gx, 0, none⟩) n cx (boolVals (xs.set j false)) from by rw [boolVals_set]; exact own_put hO3 hj)
            have HB3 := Lib.hid ((HB.out.grown hgr HB.out.size (fun k e => by cases e; exact HG.out)).setCell (p := ⟨gx, j, none⟩) (by show _ ≤ gx; omega) (.bool false))
            clear hM2 hgr hsz hO3 hcx hfx
            go_wp2_with fail
            refine (has_any (j : Int) HM3.out).mono ?_
            rintro e wc ⟨rfl, rfl⟩
            rw [hasB_set false hj2]
            go_wp2_with fail
            go_roundw
            case rel => exact ⟨k + 1, xs.set j false, ws2, by omega, by go_num, by rw [List.length_set]; exact HXL.out, HM3.out, HO3.out, HB3.out⟩
            case measure => simp [intOf]; omega
          | false =>
            go_wp2_with fail
            refine (clear_any (j : Int) HM.out).mono ?_
            rintro e wb ⟨rfl, ws2, hM2, hgr, hsz⟩
            rw [turnL_in false hj2] at hM2
            rw [HHB.out]
            have hO3 := HO.out.kept hgr (HO.out.ne_lt hgwl)
            have hcb : wb.cell? ⟨gx, j, none⟩ = some (.bool false) := (World.cell?_of_block (hgr.block gx (by omega) (by intro h; injection h with h; omega))).trans hcx
            have hfb : wb.frozen? ⟨gx, j, none⟩ = false := (World.frozen?_of_block (hgr.block gx (by omega) (by intro h; injection h with h; omega))).trans hfx
            have HM3 := Lib.hid (hM2.far (p := ⟨gx, j, none⟩) (by show g ≠ gx; omega) (by show gw ≠ gx; omega) (.bool false))
            have HO3 := Lib.hid (show Own (wb.setCell ⟨gx, j, none⟩ (.bool false)) w1.heap.size 4 1 (some ⟨gx, 0, none⟩) n cx (boolVals (xs.set j false)) from by rw [boolVals_set]; exact own_put hO3 hj)
            have HB3 := Lib.hid ((HB.out.grown hgr HB.out.size (fun k e => by cases e; exact HG.out)).setCell (p := ⟨gx, j, none⟩) (by show _ ≤ gx; omega) (.bool false))
            clear hM2 hgr hsz hO3 hcx hfx
            go_wp2_with fail
            refine (has_any (j : Int) HM3.out).mono ?_
            rintro e wc ⟨rfl, rfl⟩
            rw [hasB_set false hj2]
            go_wp2_with fail
            go_roundw
            case rel => exact ⟨k + 1, xs.set j false, ws2, by omega, by go_num, by rw [List.length_set]; exact HXL.out, HM3.out, HO3.out, HB3.out⟩
            case measure => simp [intOf]; omega
        · have hq1 : decide (a < (n : Int)) = false := by simp; omega
          go_wp2_with fail
          refine (clear_any a HM.out).mono ?_
          rintro e wb ⟨rfl, ws2, hM2, hgr, hsz⟩
          rw [turnL_out false (by rw [HXL.out]; omega)] at hM2
          rw [hasB_out xs a (by rw [HXL.out]; omega)]
          have HO3 := Lib.hid (HO.out.kept hgr (HO.out.ne_lt hgwl))
          have HM3 := Lib.hid hM2
          have HB3 := Lib.hid (HB.out.grown hgr HB.out.size (fun k e => by cases e; exact HG.out))
          clear hM2 hgr hsz
          go_wp2_with fail
          refine (has_any a HM3.out).mono ?_
          rintro e wc ⟨rfl, rfl⟩
          rw [hasB_out xs a (by rw [HXL.out]; omega)]
          go_wp2_with fail
          go_roundw
          case rel => exact ⟨k + 1, xs, ws2, by omega, by go_num, HXL.out, HM3.out, HO3.out, HB3.out⟩
          case measure => simp [intOf]; omega
        · have hq1 : decide (0 ≤ a) = false := by simp; omega
          go_wp2_with fail
          refine (clear_any a HM.out).mono ?_
          rintro e wb ⟨rfl, ws2, hM2, hgr, hsz⟩
          rw [turnL_out false (by rw [HXL.out]; omega)] at hM2
          rw [hasB_out xs a (by rw [HXL.out]; omega)]
          have HO3 := Lib.hid (HO.out.kept hgr (HO.out.ne_lt hgwl))
          have HM3 := Lib.hid hM2
          have HB3 := Lib.hid (HB.out.grown hgr HB.out.size (fun k e => by cases e; exact HG.out))
          clear hM2 hgr hsz
          go_wp2_with fail
          refine (has_any a HM3.out).mono ?_
          rintro e wc ⟨rfl, rfl⟩
          rw [hasB_out xs a (by rw [HXL.out]; omega)]
          go_wp2_with fail
          go_roundw
          case rel => exact ⟨k + 1, xs, ws2, by omega, by go_num, HXL.out, HM3.out, HO3.out, HB3.out⟩
          case measure => simp [intOf]; omega
    · have hkn : k = na := by omega
      subst hkn
      have hb0 : xs.length ≤ 4096 := by rw [HXL.out]; omega
      go_wp2_with fail
      refine (len_any HM.out).mono ?_
      rintro e wa ⟨rfl, rfl⟩
      rw [HXL.out]
      go_wp2_with fail
      refine (bools_any HM.out).mono ?_
      rintro e w3 ⟨A3, c3, rfl, hO3, hb3⟩
      have HX3 := Lib.hid (HO.out.row.below hb3 |>.more hb3.size)
      have HM3 := Lib.hid (HM.out.step hb3)
      have HB3 := Lib.hid (HB.out.trans (hb3.mono HB.out.size))
      have HO3 := Lib.hid hO3
      clear hO3 hb3
      go_wp2_with fail
      refine (truths_any A3 X xs.length n c3 cx xs xs w3 rfl HXL.out (by unfold maxLen; omega) (by unfold maxLen; omega) HO3.out.row HX3.out).mono ?_
      rintro e w4 ⟨rfl, hb4⟩
      rw [decide_eq_true rfl]
      have HX4 := Lib.hid (HX3.out.below hb4 |>.more hb4.size)
      have HM4 := Lib.hid (HM3.out.step hb4)
      have HB4 := Lib.hid (HB3.out.trans (hb4.mono HB3.out.size))
      clear hb4
      go_wp2_with fail
      refine (all_map HM4.out (HT.out.step HB4.out)).mono ?_
      rintro e w5 ⟨A5, c5, rfl, hO5, hb5⟩
      have HX5 := Lib.hid (HX4.out.below hb5 |>.more hb5.size)
      have HM5 := Lib.hid (HM4.out.step hb5)
      have HB5 := Lib.hid (HB4.out.trans (hb5.mono HB4.out.size))
      have HO5 := Lib.hid hO5
      clear hO5 hb5
      go_wp2_with fail
      refine (rall_any X n cx xs w5 HXL.out (by omega) HX5.out).mono ?_
      rintro e w6 ⟨A6, c6, rfl, hO6, hb6⟩
      have HX6 := Lib.hid (HX5.out.below hb6 |>.more hb6.size)
      have HM6 := Lib.hid (HM5.out.step hb6)
      have HB6 := Lib.hid (HB5.out.trans (hb6.mono HB5.out.size))
      have HR5 := Lib.hid (HO5.out.row.below hb6 |>.more hb6.size)
      have HO6 := Lib.hid hO6
      clear hO6 hb6
      have hal2 := allB_len xs xs.length
      have hal3 := allB_len xs n
      go_wp2_with fail
      refine (same_any A5 A6 (allB xs xs.length).length (allB xs n).length c5 c6 (allB xs xs.length) (allB xs n) w6 rfl rfl (by unfold maxLen; omega) (by unfold maxLen; omega) HR5.out HO6.out.row).mono ?_
      rintro e w7 ⟨rfl, hb7⟩
      rw [decide_eq_true (show allB xs xs.length = allB xs n by rw [HXL.out])]
      have HX7 := Lib.hid (HX6.out.below hb7 |>.more hb7.size)
      have HM7 := Lib.hid (HM6.out.step hb7)
      have HB7 := Lib.hid (HB6.out.trans (hb7.mono HB6.out.size))
      clear hb7
      go_wp2_with fail
      refine (count_any HM7.out).mono ?_
      rintro e w8 ⟨rfl, rfl⟩
      rw [cnt_all, HXL.out]
      go_wp2_with fail
      refine (rall_any X n cx xs w7 HXL.out (by omega) HX7.out).mono ?_
      rintro e w8 ⟨A8, c8, rfl, _, hb8⟩
      have HX8 := Lib.hid (HX7.out.below hb8 |>.more hb8.size)
      have HM8 := Lib.hid (HM7.out.step hb8)
      have HB8 := Lib.hid (HB7.out.trans (hb8.mono HB7.out.size))
      clear hb8
      go_wp2_with fail
      refine (next_any i HM8.out (HT.out.step HB8.out)).mono ?_
      rintro e w9 ⟨rfl, rfl⟩
      go_wp2_with fail
      refine (rnext_any X n cx xs i w8 HXL.out (by omega) HX8.out).mono ?_
      rintro e w9 ⟨rfl, rfl⟩
      go_wp2_with fail
      refine (alive05 _ (HT.out.step HB8.out)).mono ?_
      rintro e w10 ⟨rfl, hb10⟩
      have HB10 := Lib.hid (HB8.out.trans (hb10.mono HB8.out.size))
      clear hb10
      go_wp2_with fail
      go_ret
      exact ⟨rfl, HB10.out⟩
end Go.Proofs.YtecigfjnpikbjaaDoor

/-
  Chapter 11: contracts of the reference's place and Fits. Conditions: program and thread lie in memory.
-/
import Derived.Test.YtoacnphgkgklcaaDoorVm7
namespace Go.Proofs.YtoacnphgkgklcaaDoor
open Go.RowKit
set_option maxHeartbeats 4000000 in
theorem rplace_any (f pc : Int) (A : Option Addr) (c : Nat) (fs : List Fn) (w : World) (_hm : fs.length ≤ maxLen) (hf : FnsOk w w.heap.size A fs) :
    Calls Tryd.prog 28 #[.agg #[.slice A fs.length c], .int .i64 f, .int .i64 pc] w fun e w' => e = .returned (.bool (placeB fs f pc)) ∧ Below w.heap.size w w' := by
  have hb := (Below.refl w.heap.size w).alloc (Nat.le_refl _) (.cells #[.slice A fs.length c] 24)
  have HB := Lib.hid hb
  have HF := Lib.hid (hf.step hb)
  unfold maxLen at _hm
  clear hb hf
  by_cases h1 : 0 ≤ f
  · obtain ⟨k, rfl⟩ := Int.eq_ofNat_of_zero_le h1
    by_cases h2 : k < fs.length
    · obtain ⟨b, off, a, rfl, hbl, hc0, hc1, hfk⟩ := HF.out.at_ k h2
      have HP := Lib.hid (placeB_nat fs k h2 pc)
      have HAN := Lib.hid hfk.1
      have hnl : a.n ≤ maxLen := hfk.2.2.2.2.1
      unfold maxLen at hnl
      by_cases h3 : 0 ≤ pc
      · have HE := Lib.hid (show placeB fs k pc = decide (pc < (a.n : Int)) by
          rw [HP.out, HAN.out, Bool.eq_iff_iff]
          simp
          omega)
        have hbb : b < w.heap.size + 1 := by simpa using hbl
        clear hc1 hfk hbl
        go_enter Tryd.func28, Tryd.ntmps28
        go_wp2_with fail
        go_ret
        exact ⟨by rw [HE.out]; rfl, HB.out⟩
      · have HE := Lib.hid (show placeB fs k pc = false by rw [HP.out, decide_eq_false]; omega)
        have hd : decide (0 ≤ pc) = false := by simpa using h3
        clear hc0 hc1 hfk
        go_enter Tryd.func28, Tryd.ntmps28
        go_wp2_with fail
        go_ret
        exact ⟨by rw [HE.out]; rfl, HB.out⟩
    · have e : placeB fs k pc = false := by unfold placeB; rw [decide_eq_false]; omega
      rw [e]
      have hd : decide (k < fs.length) = false := by simp; omega
      clear e
      go_enter Tryd.func28, Tryd.ntmps28
      go_wp2_with fail
      go_ret
      exact ⟨rfl, HB.out⟩
  · have e : placeB fs f pc = false := by unfold placeB; rw [decide_eq_false]; omega
    rw [e]
    have hd : decide (0 ≤ f) = false := by simpa using h1
    clear e
    go_enter Tryd.func28, Tryd.ntmps28
    go_wp2_with fail
    go_ret
    exact ⟨rfl, HB.out⟩
set_option maxHeartbeats 4000000 in
theorem rFits_any (t : Th) (A B : Option Addr) (c d : Nat) (fs : List Fn) (w : World) (hm : fs.length ≤ maxLen) (hf : FnsOk w w.heap.size A fs) (ht : ThOk w w.heap.size t B d) :
    Calls Tryd.prog 10 #[.agg #[.slice A fs.length c], .agg (thArr t B d)] w fun e w' => e = .returned (.bool (fitsT fs t)) ∧ Below w.heap.size w w' := by
  have h0 := thArr_0 (t := t) B d
  have h1 := thArr_1 (t := t) B d
  have h10 := thArr_10 B d ht.regs
  have h11 := thArr_11 B d ht.regs
  have HT := Lib.hid ht
  have HF := Lib.hid hf
  have HM := Lib.hid hm
  have hlen := Nat.le_trans ht.len ht.cap
  unfold maxLen at hlen
  clear ht hf hm
  generalize hX : thArr t B d = X at *
  clear hX
  have hb0 := below2 w (.cells #[.slice A fs.length c] 24) (.cells X 28)
  have hW : ∃ W : World, Hid (W = (w.alloc (.cells #[.slice A fs.length c] 24)).alloc (.cells X 28)) := ⟨_, rfl⟩
  obtain ⟨W, HW⟩ := hW
  have hBP : Blk W w.heap.size 24 #[.slice A fs.length c] := by rw [HW.out]; exact (Blk.new w _ _).alloc _
  have hBT : Blk W (w.heap.size + 1) 28 X := by rw [HW.out]; exact heap_alloc2_new w _ _
  rw [← HW.out] at hb0
  have HB0 := Lib.hid hb0
  have hz1 : w.heap.size < W.heap.size := hBP.lt
  have hz2 : w.heap.size + 1 < W.heap.size := hBT.lt
  have G0 : ∀ w', Below W.heap.size W w' → w'.cell? ⟨w.heap.size, 0, none⟩ = some (.slice A fs.length c) := fun w' h => (h.cell (p := ⟨w.heap.size, 0, none⟩) hz1).trans (hBP.cell 0)
  have G1 : ∀ w', Below W.heap.size W w' → w'.cell? ⟨w.heap.size + 1, 0, none⟩ = some (.int .i64 t.fn) := fun w' h => (h.cell (p := ⟨w.heap.size + 1, 0, none⟩) hz2).trans ((hBT.cell 0).trans h0)
  have G2 : ∀ w', Below W.heap.size W w' → w'.cell? ⟨w.heap.size + 1, 1, none⟩ = some (.int .i64 t.pc) := fun w' h => (h.cell (p := ⟨w.heap.size + 1, 1, none⟩) hz2).trans ((hBT.cell 1).trans h1)
  have G10 : ∀ w', Below W.heap.size W w' → w'.cell? ⟨w.heap.size + 1, 10, none⟩ = some (.slice B t.stack.length d) := fun w' h => (h.cell (p := ⟨w.heap.size + 1, 10, none⟩) hz2).trans ((hBT.cell 10).trans h10)
  have G11 : ∀ w', Below W.heap.size W w' → w'.cell? ⟨w.heap.size + 1, 11, none⟩ = some (.bool t.done) := fun w' h => (h.cell (p := ⟨w.heap.size + 1, 11, none⟩) hz2).trans ((hBT.cell 11).trans h11)
  have HG0 := Lib.hid G0
  have HG1 := Lib.hid G1
  have HG2 := Lib.hid G2
  have HG10 := Lib.hid G10
  have HG11 := Lib.hid G11
  clear hb0 hBP hBT h0 h1 h10 h11 G0 G1 G2 G10 G11
  go_enter Tryd.func10, Tryd.ntmps10
  go_wp2_with fail
  rw [← HW.out]
  refine (rcheckP_any A c fs W HM.out (HF.out.step HB0.out)).mono ?_
  rintro e w1 ⟨rfl, hb1⟩
  have HB1 := Lib.hid hb1
  have g0 := HG0.out w1 hb1
  have g1 := HG1.out w1 hb1
  have g2 := HG2.out w1 hb1
  have g10 := HG10.out w1 hb1
  have g11 := HG11.out w1 hb1
  clear hb1
  unfold tri
  have HRB := Lib.hid (show runB fs = decide ((checkP fs).2.2 = 0) from rfl)
  generalize checkP fs = r at *
  obtain ⟨r1, r2, r3⟩ := r
  simp only at HRB
  have hend : Below w.heap.size w w1 := HB0.out.trans (HB1.out.mono HB0.out.size)
  have HEND := Lib.hid hend
  clear hend
  by_cases h3 : r3 = 0
  · subst h3
    cases hdn : t.done with
    | true =>
      have HE := Lib.hid (show fitsT fs t = true by unfold fitsT; rw [HRB.out, hdn]; rfl)
      rw [hdn] at g11
      clear hdn
      go_wp2_with fail
      go_ret
      exact ⟨by rw [HE.out]; rfl, HEND.out⟩
    | false =>
      have HE := Lib.hid (show fitsT fs t = fitsP fs t by unfold fitsT; rw [HRB.out, hdn]; rfl)
      rw [hdn] at g11
      clear hdn
      go_wp2_with fail
      refine (rplace_any t.fn t.pc A c fs w1 HM.out (HF.out.step HEND.out)).mono ?_
      rintro e w2 ⟨rfl, hb2⟩
      have HB2 := Lib.hid (HB1.out.trans (hb2.mono HB1.out.size))
      clear hb2
      have k10 := HG10.out w2 HB2.out
      clear g0 g1 g2 g10 g11
      cases hp : placeB fs t.fn t.pc with
      | false =>
        have HE2 := Lib.hid (show fitsP fs t = false by unfold fitsP; rw [hp]; rfl)
        clear hp
        go_wp2_with fail
        go_ret
        exact ⟨by rw [HE.out, HE2.out]; rfl, HB0.out.trans (HB2.out.mono HB0.out.size)⟩
      | true =>
        by_cases h16 : t.stack.length ≤ 16
        · have HE2 := Lib.hid (show fitsP fs t = placesB fs t.stack by unfold fitsP; rw [hp, decide_eq_true h16]; rfl)
          have hd : decide ((16 : Int) < t.stack.length) = false := by simp; omega
          clear hp
          go_wp2_with fail
          go_loopw [8] (fun vi wr => ∃ k : Nat, k ≤ t.stack.length ∧ vi = .int .i64 k ∧ Hid (∀ j (hj : j < t.stack.length), j < k → placeB fs t.stack[j].1 t.stack[j].2 = true) ∧ Below W.heap.size W wr) (fun vi _ => t.stack.length - (intOf vi).toNat)
          case atStart => exact ⟨0, Nat.zero_le _, rfl, (fun j _ h => absurd h (by omega)), HB2.out⟩
          case round =>
            obtain ⟨k, hk, rfl, HK, hbw⟩ := hrel
            have HBW := Lib.hid hbw
            have q10 := HG10.out wr hbw
            clear hbw k10
            by_cases hlt : k < t.stack.length
            · obtain ⟨b, off, rfl, hbl, hx0, hx1⟩ := fr_cells ((HT.out.row.below HB0.out).more HB0.out.size) k hlt
              have F0 : ∀ w', Below W.heap.size W w' → w'.cell? ⟨b, off + k * 2, none⟩ = some (.int .i64 t.stack[k].1) := fun w' h => (h.cell (p := ⟨b, off + k * 2, none⟩) hbl).trans hx0
              have F1 : ∀ w', Below W.heap.size W w' → w'.cell? ⟨b, off + k * 2 + 1, none⟩ = some (.int .i64 t.stack[k].2) := fun w' h => (h.cell (p := ⟨b, off + k * 2 + 1, none⟩) hbl).trans hx1
              have G0 := HG0.out
              have G10 := HG10.out
              have HNO := Lib.hid (fun h => placesB_no (fs := fs) hlt h)
              have HYES := Lib.hid (show placeB fs t.stack[k].1 t.stack[k].2 = true → ∀ j (hj : j < t.stack.length), j < k + 1 → placeB fs t.stack[j].1 t.stack[j].2 = true from fun h j hj hjk => by
                by_cases e : j = k
                · subst e; exact h
                · exact HK.out j hj (by omega))
              generalize t.stack[k] = x at *
              obtain ⟨x1, x2⟩ := x
              simp only at F0 F1 HNO HYES
              have hd2 : decide (k < t.stack.length) = true := by simpa using hlt
              clear hx0 hx1
              go_wp2_with fail
              refine region_sch (fun w' => Below W.heap.size W w') [([0, 1, 2, 3, 4, 5, 6, 7, 8, 9, 10, 11, 12], 13)] [14] (by kernel_rfl) (by kernel_rfl) (by kernel_rfl) (fun _ _ d _ _ h => by cases d <;> exact h) HBW.out.drew ?_
              (try simp only [Act.put, List.setIfInBounds_toArray, List.set_cons_zero, List.set_cons_succ]); refine sch_seg ?_; simp only [pickOps, List.getElem?_toArray, List.getElem?_cons_zero, List.getElem?_cons_succ]; (repeat (first | go_big_quiet_skip | (go_big_quiet_want; first | (go_big_quiet_op; first | go_big_quiet_on | ((first | with_reducible refine ⟨_, fun _ _ => rfl, ?_⟩); go_big_quiet_on)) | (simp (contextual := true) [go_sem, F0, F1, G0, G10]; with_reducible refine ⟨_, fun _ _ => rfl, ?_⟩; go_big_quiet_on)))); refine wpQuiet_nil ?_
              clear F0 F1 G0 G10
              go_wp2_with fail
              refine (rplace_any x1 x2 A c fs wr.drew HM.out (HF.out.step (HB0.out.trans (HBW.out.drew.mono HB0.out.size)))).mono ?_
              rintro e w3 ⟨rfl, hb3⟩
              have HB3 := Lib.hid (HBW.out.drew.trans (hb3.mono HBW.out.drew.size))
              clear hb3
              go_wp2_with fail
              refine ⟨fun w' => Below W.heap.size W w', HB3.out, fun _ h => h, ?_⟩
              (try simp only [Act.put, List.setIfInBounds_toArray, List.set_cons_zero, List.set_cons_succ]); refine sch_end ?_; simp only [pickOps, List.getElem?_toArray, List.getElem?_cons_zero, List.getElem?_cons_succ]; (repeat (first | go_big_quiet_skip | (go_big_quiet_want; first | (go_big_quiet_op; first | go_big_quiet_on | ((first | with_reducible refine ⟨_, fun _ _ => rfl, ?_⟩); go_big_quiet_on)) | (simp (contextual := true) [go_sem, HB3]; with_reducible refine ⟨_, fun _ _ => rfl, ?_⟩; go_big_quiet_on)))); refine wpQuiet_nil ?_
              cases hp : placeB fs x1 x2 with
              | true =>
                have HY := Lib.hid (HYES.out hp)
                clear hp HYES HNO
                go_wp2_with fail
                go_roundw
                case rel => exact ⟨k + 1, by omega, by go_num, HY.out, HB3.out⟩
                case measure => simp [intOf]; omega
              | false =>
                have HN := Lib.hid (HNO.out hp)
                clear hp HYES HNO
                go_wp2_with fail
                go_ret
                exact ⟨by rw [HE.out, HE2.out, HN.out]; rfl, HB0.out.trans (HB3.out.mono HB0.out.size)⟩
            · have hkn : k = t.stack.length := by omega
              have hd2 : decide (k < t.stack.length) = false := by simp; omega
              go_wp2_with fail
              go_ret
              exact ⟨by rw [HE.out, HE2.out, placesB_yes (fun j hj => HK.out j hj (by omega))]; rfl, HB0.out.trans (HBW.out.mono HB0.out.size)⟩
        · have HE2 := Lib.hid (show fitsP fs t = false by unfold fitsP; rw [hp, decide_eq_false h16]; rfl)
          have hd : decide ((16 : Int) < t.stack.length) = true := by simp; omega
          clear hp
          go_wp2_with fail
          go_ret
          exact ⟨by rw [HE.out, HE2.out]; rfl, HB0.out.trans (HB2.out.mono HB0.out.size)⟩
  · have HE := Lib.hid (show fitsT fs t = false by unfold fitsT; rw [HRB.out, decide_eq_false h3]; rfl)
    have h3' : (r3 != 0) = true := by simpa using h3
    clear h3
    go_wp2_with fail
    go_ret
    exact ⟨by rw [HE.out]; rfl, HEND.out⟩
end Go.Proofs.YtoacnphgkgklcaaDoor

/-
  Chapter 11: the law VmStays returns true, whatever is handed in. Condition: the table isa.rows.
-/
import Derived.Test.YtoacnphgkgklcaaDoorLgt11
import Derived.Test.YtoacnphgkgklcaaDoorSchT
namespace Go.Proofs.YtoacnphgkgklcaaDoor
open Go.RowKit
/-- A thread in the law's own variable, its stack elsewhere. -/
structure ThVar (w0 w : World) (g : Nat) (fs : List Fn) (t : Th) (B : Option Addr) (d : Nat) : Prop where
  blk : Blk w (g + 1) 28 (thArr t B d)
  ok : ThOk w w.heap.size t B d
  far : t.stack = [] ∨ ∀ k, ob B = some k → k ≠ g + 1
  fits : fitsT fs t = true
  small : t.stack.length ≤ 40
  bel : Below g w0 w
theorem step_did (fs : List Fn) (t : Th) (ans : Int) : (stepT fs t ans).2.2 = !t.done := by
  unfold stepT
  cases h : t.done
  · rfl
  · rfl
theorem step_small (fs : List Fn) (t : Th) (ans : Int) (h : t.stack.length ≤ 40) (hf : fitsT fs t = true) : (stepT fs t ans).1.stack.length ≤ 40 := by
  have h2 := fits_step ans hf
  cases hd : (stepT fs t ans).1.done with
  | false => have := stack_le h2 hd; omega
  | true =>
    cases hd0 : t.done with
    | true => unfold stepT; rw [if_pos hd0]; exact h
    | false =>
      have hsl := stack_le hf hd0
      unfold stepT at hd ⊢
      rw [hd0] at hd ⊢
      simp only [Bool.false_eq_true, if_false] at hd ⊢
      generalize insAt fs t.fn t.pc = i at *
      unfold stepI at *
      have hmv : ∀ u, moveT i { t with regs := regs1 i t ans, pc := t.pc + 1 } = some u → u.done = false := by
        intro u hu
        unfold moveT at hu
        split at hu
        · injection hu with hu; rw [← hu]; split <;> exact hd0
        split at hu
        · injection hu with hu; rw [← hu]; exact hd0
        split at hu
        · split at hu
          · cases hu
          · injection hu with hu; rw [← hu]; exact hd0
        split at hu
        · split at hu
          · cases hu
          · injection hu with hu; rw [← hu]; exact hd0
        split at hu
        · cases hu
        · injection hu with hu; rw [← hu]; exact hd0
      split at hd
      · decide
      · rename_i u hm
        rw [hmv u hm] at hd
        cases hd
set_option maxHeartbeats 8000000 in
set_option maxRecDepth 100000 in
theorem stays11 (t : Th) (A B L : Option Addr) (c d n cl : Nat) (fs : List Fn) (zs : List Int) (w : World) (hT : Tab w) (hm : fs.length ≤ maxLen) (hf : FnsOk w w.heap.size A fs) (ht : ThOk w w.heap.size t B d) (hzl : zs.length = n) (hnc : n ≤ maxLen) (hz : Row w w.heap.size L (ints zs)) :
    Calls Tryd.prog 5 #[.agg #[.slice A fs.length c], .agg (thArr t B d), .slice L n cl] w fun e w' => e = .returned (.bool true) ∧ Below w.heap.size w w' := by
  have HT := Lib.hid ht
  have HTA := Lib.hid hT
  have HF := Lib.hid hf
  have HM := Lib.hid hm
  have HZL := Lib.hid hzl
  have HZ := Lib.hid hz
  unfold maxLen at hnc
  have HSZ := Lib.hid (show (Tryd.prog.info? 28).map (·.size) = some (thArr t B d).size by rw [thArr_size B d ht.regs]; exact Tryd.infoTh)
  clear ht hf hm hT hzl hz
  generalize hX : thArr t B d = X at *
  have HX := Lib.hid hX
  clear hX
  have hb0 := below2 w (.cells #[.slice A fs.length c] 24) (.cells X 28)
  have hW : ∃ W : World, Hid (W = (w.alloc (.cells #[.slice A fs.length c] 24)).alloc (.cells X 28)) := ⟨_, rfl⟩
  obtain ⟨W, HW⟩ := hW
  have hBP : Blk W w.heap.size 24 #[.slice A fs.length c] := by rw [HW.out]; exact (Blk.new w _ _).alloc _
  have hBT : Blk W (w.heap.size + 1) 28 X := by rw [HW.out]; exact heap_alloc2_new w _ _
  rw [← HW.out] at hb0
  have HB0 := Lib.hid hb0
  have HBP := Lib.hid hBP
  have HBT := Lib.hid hBT
  clear hb0 hBP hBT
  go_enter Tryd.func5, Tryd.ntmps5
  go_wp2_with (refine wpList_load_rowW (by rfl) 28 _ rfl (w.heap.size + 1) rfl 28 X (0, 0) _ (by rw [← HW.out]; exact HBT.out) Tryd.underlying28 rfl HSZ.out ?_)
  rw [← HW.out, ← HX.out]
  refine (light11_any t A B c d fs W HM.out (HF.out.step HB0.out) (HT.out.step HB0.out)).mono ?_
  rintro e w1 ⟨rfl, hb1⟩
  have HB1 := Lib.hid (HB0.out.trans (hb1.mono HB0.out.size))
  have HBP1 := Lib.hid (HBP.out.below hb1 HBP.out.lt)
  have HBT1 := Lib.hid (HBT.out.below hb1 HBT.out.lt)
  have kp := HBP1.out.cell 0
  simp only [List.getElem?_toArray, List.getElem?_cons_zero] at kp
  clear hb1
  cases hl : light11 fs t with
  | false =>
    clear hl
    go_wp2_with (go_at_call 9; refine (alive11 _ (HTA.out.step HB1.out)).mono ?_; rintro e w2 ⟨rfl, hb⟩; have HB2 := Lib.hid hb; clear hb)
    go_ret
    exact ⟨rfl, HB1.out.trans (HB2.out.mono HB1.out.size)⟩
  | true =>
    have HL := Lib.hid hl
    clear hl
    by_cases h60 : 60 < n
    · have hd : decide ((60 : Int) < n) = true := by simp; omega
      go_wp2_with (go_at_call 9; refine (alive11 _ (HTA.out.step HB1.out)).mono ?_; rintro e w2 ⟨rfl, hb⟩; have HB2 := Lib.hid hb; clear hb)
      go_ret
      exact ⟨rfl, HB1.out.trans (HB2.out.mono HB1.out.size)⟩
    · have hd : decide ((60 : Int) < n) = false := by simp; omega
      go_wp2_with (refine wpList_load_rowW (by rfl) 28 _ rfl (w.heap.size + 1) rfl 28 X (0, 0) _ HBT1.out Tryd.underlying28 rfl HSZ.out ?_)
      rw [← HX.out]
      refine (vmFits_any t A B c d fs w1 (HTA.out.step HB1.out) HM.out (HF.out.step HB1.out) (HT.out.step HB1.out)).mono ?_
      rintro e w2 ⟨rfl, hb2⟩
      have HB2 := Lib.hid (HB1.out.trans (hb2.mono HB1.out.size))
      have HBP2 := Lib.hid (HBP1.out.below hb2 HBP1.out.lt)
      have HBT2 := Lib.hid (HBT1.out.below hb2 HBT1.out.lt)
      clear hb2 kp
      cases hfit : fitsT fs t with
      | false =>
        clear hfit
        go_wp2_with (go_at_call 9; refine (alive11 _ (HTA.out.step HB2.out)).mono ?_; rintro e w3 ⟨rfl, hb⟩; have HB3 := Lib.hid hb; clear hb)
        go_ret
        exact ⟨rfl, HB2.out.trans (HB3.out.mono HB2.out.size)⟩
      | true =>
        have HFIT := Lib.hid hfit
        clear hfit
        have hv0 : ThVar w w2 w.heap.size fs t B d := by
          refine ⟨by rw [HX.out]; exact HBT2.out, HT.out.step HB2.out, ?_, HFIT.out, ?_, HB2.out⟩
          · rcases HT.out.row with h | ⟨b, off, e, hb, _⟩
            · left
              cases hs : t.stack with
              | nil => rfl
              | cons a l => rw [hs] at h; simp [frVals] at h
            · right
              intro k hk
              rw [e] at hk
              have : b = k := by injection hk
              omega
          · have := HL.out
            unfold light11 at this
            rw [Bool.and_eq_true, decide_eq_true_eq] at this
            exact this.2
        have HV0 := Lib.hid hv0
        clear hv0
        go_wp2_with fail
        go_loopw [7] (fun vi wr => ∃ (k : Nat) (t' : Th) (B' : Option Addr) (d' : Nat), k ≤ n ∧ vi = .int .i64 k ∧ ThVar w wr w.heap.size fs t' B' d' ∧ Blk wr w.heap.size 24 #[.slice A fs.length c]) (fun vi _ => n - (intOf vi).toNat)
        case atStart => exact ⟨0, t, B, d, Nat.zero_le _, rfl, HV0.out, HBP2.out⟩
        case round =>
          obtain ⟨k, t', B', d', hk, rfl, hv, hp⟩ := hrel
          have HV := Lib.hid hv
          have HP := Lib.hid hp
          clear hv hp HV0 HBT2 HBP2
          by_cases hlt : k < n
          · have hkz : k < zs.length := by rw [HZL.out]; exact hlt
            obtain ⟨lb, loff, rfl, hlb, hlc⟩ := HZ.out.at_ (k := k) (by simpa [ints] using hkz)
            have hz0 := hlc k _ (ints_at_ zs k hkz)
            generalize zs[k] = ans at *
            have HZ0 := Lib.hid hz0
            have HS1 := Lib.hid (show (Tryd.prog.info? 28).map (·.size) = some (thArr t' B' d').size by rw [thArr_size B' d' HV.out.ok.regs]; exact Tryd.infoTh)
            clear hlc hz0
            go_wp2_with (refine wpList_load_rowW (by rfl) 28 _ rfl (w.heap.size + 1) rfl 28 (thArr t' B' d') (0, 0) _ HV.out.blk Tryd.underlying28 rfl HS1.out ?_)
            refine (vmClone_any t' B' d' wr (by have := HV.out.small; omega) HV.out.ok).mono ?_
            rintro e w3 ⟨A3, c3, rfl, hO3, hb3⟩
            have HO3 := Lib.hid hO3
            have HB3 := Lib.hid hb3
            have HS3 := Lib.hid (show (Tryd.prog.info? 28).map (·.size) = some (thArr t' A3 c3).size by rw [thArr_size A3 c3 HV.out.ok.regs]; exact Tryd.infoTh)
            clear hO3 hb3
            have hkey : ∀ W5 : World, Hid (W5 = (w3.alloc (.cells #[.int .i64 0, .int .i64 0, .int .i64 0, .int .i64 0, .int .i64 0, .int .i64 0, .int .i64 0, .int .i64 0, .int .i64 0, .int .i64 0, .slice none 0 0, .bool false] 28)).setRow w3.heap.size (thArr t' A3 c3)) → Below wr.heap.size wr W5 ∧ Blk W5 w3.heap.size 28 (thArr t' A3 c3) ∧ ThOk W5 W5.heap.size t' A3 c3 := by
              intro W5 h5
              have hob : ob A3 = none ∨ ob A3 ≠ some w3.heap.size := by
                right
                intro h
                have := (HO3.out.lt _ h).2
                omega
              have hown := (HO3.out.alloc (.cells #[.int .i64 0, .int .i64 0, .int .i64 0, .int .i64 0, .int .i64 0, .int .i64 0, .int .i64 0, .int .i64 0, .int .i64 0, .int .i64 0, .slice none 0 0, .bool false] 28)).kept (grown_setRow _ w3.heap.size (thArr t' A3 c3)) hob
              rw [h5.out]
              refine ⟨below_setRow (HB3.out.alloc HB3.out.size _) HB3.out.size (by rw [World.size_alloc]; exact Nat.le_trans HB3.out.size (Nat.le_succ _)) _, (Blk.new w3 _ _).setRow _, ?_⟩
              exact ThMem.ok (base := wr.heap.size) (g := w3.heap.size) ⟨(Blk.new w3 _ _).setRow _, hown, hob, HV.out.ok.regs, HB3.out.size⟩
            have KEY := Lib.hid hkey
            clear hkey
            go_wp2_with (refine wpList_store_row rfl 28 _ _ rfl w3.heap.size (thArr t' A3 c3) rfl rfl 28 _ (Blk.new w3 _ _) HS3.out (by rw [thArr_size A3 c3 HV.out.ok.regs]; rfl) (thArr_one t' A3 c3) ?_; have hW5 : ∃ W5 : World, Hid (W5 = (w3.alloc (.cells #[.int .i64 0, .int .i64 0, .int .i64 0, .int .i64 0, .int .i64 0, .int .i64 0, .int .i64 0, .int .i64 0, .int .i64 0, .int .i64 0, .slice none 0 0, .bool false] 28)).setRow w3.heap.size (thArr t' A3 c3)) := ⟨_, rfl⟩; obtain ⟨W5, HW5⟩ := hW5; rw [← HW5.out]; obtain ⟨hB5, hK5, hO5⟩ := KEY.out W5 HW5; have HB5 := Lib.hid hB5; have HK5 := Lib.hid hK5; have HO5 := Lib.hid hO5; clear hB5 hK5 hO5)
            have HBW := Lib.hid (HV.out.bel.trans (HB5.out.mono HV.out.bel.size))
            have hzg : w.heap.size + 1 < wr.heap.size := HV.out.blk.lt
            have LT : ∀ w', Below W5.heap.size W5 w' → (loadVar 28 ⟨w.heap.size + 1, 0, none⟩).run Tryd.prog w' = .ok (.agg (thArr t' B' d')) w' := fun w' h => run_loadVar_row w' _ _ _ _ (0, 0) _ (((HV.out.blk.below HB5.out HV.out.blk.lt).below h (Nat.lt_of_lt_of_le hzg HB5.out.size))) Tryd.underlying28 rfl HS1.out
            have F0 : ∀ w', Below W5.heap.size W5 w' → w'.cell? ⟨w.heap.size, 0, none⟩ = some (.slice A fs.length c) := fun w' h => (((HP.out.below HB5.out HP.out.lt).below h (Nat.lt_of_lt_of_le HP.out.lt HB5.out.size))).cell 0
            have F1 : ∀ w', Below W5.heap.size W5 w' → w'.cell? ⟨lb, loff + k, none⟩ = some (.int .i64 ans) := fun w' h => ((HBW.out.trans (h.mono HBW.out.size)).cell (p := ⟨lb, loff + k, none⟩) hlb).trans HZ0.out
            have HSTEP := Lib.hid (show stepS fs t' ans = stepT fs t' ans by unfold stepS; rw [if_pos HV.out.fits])
            refine region_tree (fun w' => Below W5.heap.size W5 w') (.two [0, 1, 2, 3, 4, 5] 6 (.one [7, 8, 9, 10] 11 (.one [] 12 (.fin [13, 14]))) 11 (.one [] 6 (.one [7, 8, 9, 10] 12 (.fin [13, 14])))) (by kernel_rfl) (by kernel_rfl) (by kernel_rfl) (fun _ _ d _ _ h => by cases d <;> exact h) (Below.refl _ _).drew ?_
            (try simp only [Act.put]); refine tree_two ?_; simp only [pickOps, List.getElem?_toArray, List.getElem?_cons_zero, List.getElem?_cons_succ]; (repeat (first | (refine quiet_load_row (by rfl) 28 _ rfl (w.heap.size + 1) rfl (thArr t' B' d') LT ?_; simp only [Act.put, List.setIfInBounds_toArray, List.set_cons_zero, List.set_cons_succ]) | go_big_quiet_skip | (go_big_quiet_want; first | (go_big_quiet_op; first | go_big_quiet_on | ((first | with_reducible refine ⟨_, fun _ _ => rfl, ?_⟩); go_big_quiet_on)) | (simp (contextual := true) [go_sem, F0, F1]; with_reducible refine ⟨_, fun _ _ => rfl, ?_⟩; go_big_quiet_on)))); refine wpQuiet_nil ?_
            refine ⟨?_, ?_⟩
            · go_wp2_with fail
              refine (vmStep_any t' A B' c d' fs ans W5.drew ((HTA.out.step HBW.out).step (Below.refl W5.heap.size W5).drew) HM.out ((HF.out.step HBW.out).step (Below.refl W5.heap.size W5).drew) (((HV.out.ok.step HB5.out)).step (Below.refl W5.heap.size W5).drew) (by have := HV.out.small; omega)).mono ?_
              rintro e w6 ⟨B6, d6, rfl, hok6, hfr6, hb6⟩
              rw [HSTEP.out] at hok6 ⊢
              have hfits := fits_step ans HV.out.fits
              have hst : (stepT fs t' ans).1.stack.length ≤ 40 := step_small fs t' ans HV.out.small HV.out.fits
              have hdid : (stepT fs t' ans).2.2 = !t'.done := step_did fs t' ans
              have hsame : t'.done = true → (stepT fs t' ans).1 = t' := fun h => by unfold stepT; rw [if_pos h]
              generalize stepT fs t' ans = r at *
              obtain ⟨u, nn, did⟩ := r
              simp only at hok6 hfits hst hdid hsame
              have HOK6 := Lib.hid hok6
              have HFR6 := Lib.hid hfr6
              have HFIT6 := Lib.hid hfits
              have HST6 := Lib.hid hst
              have HDID := Lib.hid hdid
              have HSAME := Lib.hid hsame
              have HB6 := Lib.hid (((Below.refl W5.heap.size W5).drew).trans (hb6.mono ((Below.refl W5.heap.size W5).drew).size))
              have HS6 := Lib.hid (show (Tryd.prog.info? 28).map (·.size) = some (thArr u B6 d6).size by rw [thArr_size B6 d6 hok6.regs]; exact Tryd.infoTh)
              clear hok6 hfr6 hfits hst hdid hsame hb6
              go_wp2_with fail
              refine ⟨(fun w' => Below W5.heap.size W5 w'), HB6.out, fun _ h => h, ?_⟩
              (try simp only [Act.put, List.setIfInBounds_toArray, List.set_cons_zero, List.set_cons_succ]); refine tree_one ?_; simp only [pickOps, List.getElem?_toArray, List.getElem?_cons_zero, List.getElem?_cons_succ]; (repeat (first | go_big_quiet_skip | (go_big_quiet_want; first | (go_big_quiet_op; first | go_big_quiet_on | ((first | with_reducible refine ⟨_, fun _ _ => rfl, ?_⟩); go_big_quiet_on)) | (simp (contextual := true) [go_sem, HB6]; with_reducible refine ⟨_, fun _ _ => rfl, ?_⟩; go_big_quiet_on)))); refine wpQuiet_nil ?_
              go_wp2_with fail
              refine ⟨(fun w' => Below W5.heap.size W5 w'), HB6.out.alloc HB6.out.size _, fun _ h => h, ?_⟩
              (try simp only [Act.put, List.setIfInBounds_toArray, List.set_cons_zero, List.set_cons_succ]); refine tree_one ?_; simp only [pickOps, List.getElem?_toArray, List.getElem?_cons_zero, List.getElem?_cons_succ]; (repeat (first | go_big_quiet_skip | (go_big_quiet_want; first | (go_big_quiet_op; first | go_big_quiet_on | ((first | with_reducible refine ⟨_, fun _ _ => rfl, ?_⟩); go_big_quiet_on)) | (simp (contextual := true) [go_sem, HB6]; with_reducible refine ⟨_, fun _ _ => rfl, ?_⟩; go_big_quiet_on)))); refine wpQuiet_nil ?_
              go_wp2_with (refine wpList_store_row rfl 28 _ _ rfl w6.heap.size (thArr u B6 d6) rfl rfl 28 _ (Blk.new w6 _ _) HS6.out (by rw [thArr_size B6 d6 HOK6.out.regs]; rfl) (thArr_one u B6 d6) ?_)
              have hw7 : ∃ w7 : World, Hid (w7 = (w6.alloc (.cells #[.int .i64 0, .int .i64 0, .int .i64 0, .int .i64 0, .int .i64 0, .int .i64 0, .int .i64 0, .int .i64 0, .int .i64 0, .int .i64 0, .slice none 0 0, .bool false] 28)).setRow w6.heap.size (thArr u B6 d6)) := ⟨_, rfl⟩
              obtain ⟨w7, HW7⟩ := hw7
              rw [← HW7.out]
              have HB7 := Lib.hid (show Below W5.heap.size W5 w7 by rw [HW7.out]; exact below_setRow (HB6.out.alloc HB6.out.size _) HB6.out.size (by rw [World.size_alloc]; exact Nat.le_trans HB6.out.size (Nat.le_succ _)) _)
              have HU7 := Lib.hid (show Blk w7 w6.heap.size 28 (thArr u B6 d6) by rw [HW7.out]; exact (Blk.new w6 _ _).setRow _)
              have Hw6.heap.size := Lib.hid (show W5.heap.size ≤ w6.heap.size from HB6.out.size)
              have HO7 := Lib.hid (show ThOk w7 w7.heap.size u B6 d6 by
                refine ⟨HOK6.out.regs, ?_, HOK6.out.len, HOK6.out.cap⟩
                rcases HOK6.out.row with h | ⟨b, off, e, hb, hc⟩
                · exact .inl h
                · refine .inr ⟨b, off, e, ?_, fun j v hv => ?_⟩
                  · rw [HW7.out, setRow_size, World.size_alloc]; omega
                  · rw [← hc j v hv, HW7.out]
                    unfold World.cell?
                    rw [heap_setRow _ _ _ b (by omega), Below.heap_alloc _ _ b hb])
              have HFAR := Lib.hid (show ∀ q, ob B6 = some q → W5.heap.size ≤ q from HFR6.out)
              refine ⟨(fun w' => Below W5.heap.size W5 w'), HB7.out, fun _ h => h, ?_⟩
              (try simp only [Act.put]); refine tree_fin ?_; simp only [pickOps, List.getElem?_toArray, List.getElem?_cons_zero, List.getElem?_cons_succ]; (repeat (first | go_big_quiet_skip | (go_big_quiet_want; first | (go_big_quiet_op; first | go_big_quiet_on | ((first | with_reducible refine ⟨_, fun _ _ => rfl, ?_⟩); go_big_quiet_on)) | (simp (contextual := true) [go_sem, HB7]; with_reducible refine ⟨_, fun _ _ => rfl, ?_⟩; go_big_quiet_on)))); refine wpQuiet_nil ?_
              clear LT F1
              have p7 := F0 w7 HB7.out
              have HT7 := Lib.hid ((HV.out.blk.below HB5.out HV.out.blk.lt).below HB7.out (Nat.lt_of_lt_of_le hzg HB5.out.size))
              have HW7b := Lib.hid (HK5.out.below HB7.out HK5.out.lt)
              have HP7 := Lib.hid ((HP.out.below HB5.out HP.out.lt).below HB7.out (Nat.lt_of_lt_of_le HP.out.lt HB5.out.size))
              have HBW7 := Lib.hid (HBW.out.trans (HB7.out.mono HBW.out.size))
              clear F0
              go_wp2_with (first | (refine wpList_load_rowW (by rfl) 28 _ rfl (w.heap.size + 1) rfl 28 (thArr t' B' d') (0, 0) _ HT7.out Tryd.underlying28 rfl HS1.out ?_) | (refine wpList_load_rowW (by rfl) 28 _ rfl w3.heap.size rfl 28 (thArr t' A3 c3) (0, 0) _ HW7b.out Tryd.underlying28 rfl HS3.out ?_))
              refine (vmSame_any t' t' B' A3 d' c3 w7 ((HV.out.ok.step HB5.out).step HB7.out) (HO5.out.step HB7.out)).mono ?_
              rintro e w8 ⟨rfl, hb8⟩
              rw [sameT_self]
              have HB8 := Lib.hid hb8
              have p8 := (HP7.out.below hb8 HP7.out.lt).cell 0
              simp only [List.getElem?_toArray, List.getElem?_cons_zero] at p8
              have HU8 := Lib.hid (HU7.out.below hb8 HU7.out.lt)
              have HT8 := Lib.hid (HT7.out.below hb8 HT7.out.lt)
              have HBW8 := Lib.hid (HBW7.out.trans (hb8.mono HBW7.out.size))
              clear hb8 p7
              go_wp2_with (refine wpList_load_rowW (by rfl) 28 _ rfl w6.heap.size rfl 28 (thArr u B6 d6) (0, 0) _ HU8.out Tryd.underlying28 rfl HS6.out ?_)
              refine (vmFits_any u A B6 c d6 fs w8 (HTA.out.step HBW8.out) HM.out (HF.out.step HBW8.out) (HO7.out.step HB8.out)).mono ?_
              rintro e w9 ⟨rfl, hb9⟩
              rw [HFIT6.out]
              have HB9 := Lib.hid hb9
              have HBW9 := Lib.hid (HBW8.out.trans (hb9.mono HBW8.out.size))
              have HU9 := Lib.hid (HU8.out.below hb9 HU8.out.lt)
              have HT9 := Lib.hid (HT8.out.below hb9 HT8.out.lt)
              have HP9 := Lib.hid ((HP7.out.below HB8.out HP7.out.lt).below hb9 (Nat.lt_of_lt_of_le HP7.out.lt HB8.out.size))
              have HO9 := Lib.hid ((HO7.out.step HB8.out).step hb9)
              have c11 := (HT9.out.cell 11).trans (thArr_11 B' d' HV.out.ok.regs)
              clear hb9 p8
              cases hdn : t'.done with
              | true =>
                have hdd := HDID.out
                rw [hdn] at hdd c11
                have HSS := Lib.hid (show sameT u t' = true by rw [HSAME.out hdn]; exact sameT_self _)
                simp only [Bool.not_true] at hdd
                subst hdd
                clear hdn
                go_wp2_with (first | (refine wpList_load_rowW (by rfl) 28 _ rfl w6.heap.size rfl 28 (thArr u B6 d6) (0, 0) _ HU9.out Tryd.underlying28 rfl HS6.out ?_) | (refine wpList_load_rowW (by rfl) 28 _ rfl (w.heap.size + 1) rfl 28 (thArr t' B' d') (0, 0) _ HT9.out Tryd.underlying28 rfl HS1.out ?_))
                refine (vmSame_any u t' B6 B' d6 d' w9 HO9.out ((((HV.out.ok.step HB5.out).step HB7.out).step HB8.out).step HB9.out)).mono ?_
                rintro e w10 ⟨rfl, hb10⟩
                rw [HSS.out]
                have HUX := Lib.hid (HU9.out.below hb10 HU9.out.lt)
                have HTX := Lib.hid (HT9.out.below hb10 HT9.out.lt)
                have HPX := Lib.hid (HP9.out.below hb10 HP9.out.lt)
                have HOX := Lib.hid (HO9.out.step hb10)
                have HBX := Lib.hid (HBW9.out.trans (hb10.mono HBW9.out.size))
                clear hb10 c11
                go_wp2_with (first | (refine wpList_load_rowW (by rfl) 28 _ rfl w6.heap.size rfl 28 (thArr u B6 d6) (0, 0) _ HUX.out Tryd.underlying28 rfl HS6.out ?_) | (refine wpList_store_row rfl 28 _ _ rfl (w.heap.size + 1) (thArr u B6 d6) rfl rfl 28 _ HTX.out HS6.out (by rw [thArr_size B' d' HV.out.ok.regs, thArr_size B6 d6 HOK6.out.regs]) (thArr_one u B6 d6) ?_))
                go_roundw
                case rel =>
                  refine ⟨k + 1, u, B6, d6, by omega, by go_num, ⟨HTX.out.setRow _, ?_, ?_, HFIT6.out, HST6.out, ?_⟩, HPX.out.farRow (by omega) _⟩
                  · refine ⟨HOK6.out.regs, ?_, HOK6.out.len, HOK6.out.cap⟩
                    rcases HOX.out.row with h | ⟨b, off, e, hb, hc⟩
                    · exact .inl h
                    · have hbz := HFAR.out b (by rw [e]; rfl)
                      have := HB5.out.size
                      refine .inr ⟨b, off, e, by rw [setRow_size]; exact hb, fun j v hv => ?_⟩
                      rw [← hc j v hv]
                      unfold World.cell?
                      rw [heap_setRow _ _ _ b (by omega)]
                  · right
                    intro q hq
                    have := HFAR.out q hq
                    have := HB5.out.size
                    omega
                  · exact below_setRow HBX.out (by omega) HBX.out.size _
                case measure => simp [intOf]; omega
              | false =>
                have hdd := HDID.out
                rw [hdn] at hdd c11
                simp only [Bool.not_false] at hdd
                subst hdd
                clear hdn
                have HUX := HU9
                have HTX := HT9
                have HPX := HP9
                have HOX := HO9
                have HBX := HBW9
                go_wp2_with (first | (refine wpList_load_rowW (by rfl) 28 _ rfl w6.heap.size rfl 28 (thArr u B6 d6) (0, 0) _ HUX.out Tryd.underlying28 rfl HS6.out ?_) | (refine wpList_store_row rfl 28 _ _ rfl (w.heap.size + 1) (thArr u B6 d6) rfl rfl 28 _ HTX.out HS6.out (by rw [thArr_size B' d' HV.out.ok.regs, thArr_size B6 d6 HOK6.out.regs]) (thArr_one u B6 d6) ?_))
                go_roundw
                case rel =>
                  refine ⟨k + 1, u, B6, d6, by omega, by go_num, ⟨HTX.out.setRow _, ?_, ?_, HFIT6.out, HST6.out, ?_⟩, HPX.out.farRow (by omega) _⟩
                  · refine ⟨HOK6.out.regs, ?_, HOK6.out.len, HOK6.out.cap⟩
                    rcases HOX.out.row with h | ⟨b, off, e, hb, hc⟩
                    · exact .inl h
                    · have hbz := HFAR.out b (by rw [e]; rfl)
                      have := HB5.out.size
                      refine .inr ⟨b, off, e, by rw [setRow_size]; exact hb, fun j v hv => ?_⟩
                      rw [← hc j v hv]
                      unfold World.cell?
                      rw [heap_setRow _ _ _ b (by omega)]
                  · right
                    intro q hq
                    have := HFAR.out q hq
                    have := HB5.out.size
                    omega
                  · exact below_setRow HBX.out (by omega) HBX.out.size _
                case measure => simp [intOf]; omega
            · go_wp2_with fail
              have hw9 : ∃ W9 : World, Hid (W9 = (W5.alloc (.cells #[.int .i64 0, .int .i64 0, .int .i64 0, .int .i64 0, .int .i64 0, .int .i64 0, .int .i64 0, .int .i64 0, .int .i64 0, .int .i64 0, .slice none 0 0, .bool false] 28)).drew) := ⟨_, rfl⟩
              obtain ⟨W9, HW9⟩ := hw9
              rw [← HW9.out]
              have HBA := Lib.hid (show Below W5.heap.size W5 W9 by rw [HW9.out]; exact ((Below.refl _ _).alloc (Nat.le_refl _) _).drew)
              have HGA := Lib.hid (show Blk W9 W5.heap.size 28 #[.int .i64 0, .int .i64 0, .int .i64 0, .int .i64 0, .int .i64 0, .int .i64 0, .int .i64 0, .int .i64 0, .int .i64 0, .int .i64 0, .slice none 0 0, .bool false] by rw [HW9.out]; exact (Blk.new W5 _ _).drew)
              have HZA := Lib.hid (show W9.heap.size = W5.heap.size + 1 by rw [HW9.out]; exact World.size_alloc _ _)
              refine ⟨(fun w' => Below W5.heap.size W5 w'), HBA.out, fun _ h => h, ?_⟩
              (try simp only [Act.put, List.setIfInBounds_toArray, List.set_cons_zero, List.set_cons_succ]); refine tree_one ?_; simp only [pickOps, List.getElem?_toArray, List.getElem?_cons_zero, List.getElem?_cons_succ]; (repeat (first | go_big_quiet_skip | (go_big_quiet_want; first | (go_big_quiet_op; first | go_big_quiet_on | ((first | with_reducible refine ⟨_, fun _ _ => rfl, ?_⟩); go_big_quiet_on)) | (simp (contextual := true) [go_sem, HBA]; with_reducible refine ⟨_, fun _ _ => rfl, ?_⟩; go_big_quiet_on)))); refine wpQuiet_nil ?_
              go_wp2_with fail
              refine (vmStep_any t' A B' c d' fs ans W9 ((HTA.out.step HBW.out).step HBA.out) HM.out ((HF.out.step HBW.out).step HBA.out) (((HV.out.ok.step HB5.out)).step HBA.out) (by have := HV.out.small; omega)).mono ?_
              rintro e w6 ⟨B6, d6, rfl, hok6, hfr6, hb6⟩
              rw [HSTEP.out] at hok6 ⊢
              have hfits := fits_step ans HV.out.fits
              have hst : (stepT fs t' ans).1.stack.length ≤ 40 := step_small fs t' ans HV.out.small HV.out.fits
              have hdid : (stepT fs t' ans).2.2 = !t'.done := step_did fs t' ans
              have hsame : t'.done = true → (stepT fs t' ans).1 = t' := fun h => by unfold stepT; rw [if_pos h]
              generalize stepT fs t' ans = r at *
              obtain ⟨u, nn, did⟩ := r
              simp only at hok6 hfits hst hdid hsame
              have HOK6 := Lib.hid hok6
              have HFR6 := Lib.hid hfr6
              have HFIT6 := Lib.hid hfits
              have HST6 := Lib.hid hst
              have HDID := Lib.hid hdid
              have HSAME := Lib.hid hsame
              have HB6 := Lib.hid ((HBA.out).trans (hb6.mono (HBA.out).size))
              have HS6 := Lib.hid (show (Tryd.prog.info? 28).map (·.size) = some (thArr u B6 d6).size by rw [thArr_size B6 d6 hok6.regs]; exact Tryd.infoTh)
              have HG6 := Lib.hid (HGA.out.below hb6 HGA.out.lt)
              clear hok6 hfr6 hfits hst hdid hsame hb6
              go_wp2_with fail
              refine ⟨(fun w' => Below W5.heap.size W5 w'), HB6.out, fun _ h => h, ?_⟩
              (try simp only [Act.put, List.setIfInBounds_toArray, List.set_cons_zero, List.set_cons_succ]); refine tree_one ?_; simp only [pickOps, List.getElem?_toArray, List.getElem?_cons_zero, List.getElem?_cons_succ]; (repeat (first | go_big_quiet_skip | (go_big_quiet_want; first | (go_big_quiet_op; first | go_big_quiet_on | ((first | with_reducible refine ⟨_, fun _ _ => rfl, ?_⟩); go_big_quiet_on)) | (simp (contextual := true) [go_sem, HB6]; with_reducible refine ⟨_, fun _ _ => rfl, ?_⟩; go_big_quiet_on)))); refine wpQuiet_nil ?_
              go_wp2_with (refine wpList_store_row rfl 28 _ _ rfl W5.heap.size (thArr u B6 d6) rfl rfl 28 _ HG6.out HS6.out (by rw [thArr_size B6 d6 HOK6.out.regs]; rfl) (thArr_one u B6 d6) ?_)
              have hw7 : ∃ w7 : World, Hid (w7 = w6.setRow W5.heap.size (thArr u B6 d6)) := ⟨_, rfl⟩
              obtain ⟨w7, HW7⟩ := hw7
              rw [← HW7.out]
              have HB7 := Lib.hid (show Below W5.heap.size W5 w7 by rw [HW7.out]; exact below_setRow HB6.out (Nat.le_refl _) HB6.out.size _)
              have HU7 := Lib.hid (show Blk w7 W5.heap.size 28 (thArr u B6 d6) by rw [HW7.out]; exact HG6.out.setRow _)
              have HFR7 := Lib.hid (show ∀ q, ob B6 = some q → W5.heap.size + 1 ≤ q from fun q hq => by have := HFR6.out q hq; have := HZA.out; omega)
              have HO7 := Lib.hid (show ThOk w7 w7.heap.size u B6 d6 by
                refine ⟨HOK6.out.regs, ?_, HOK6.out.len, HOK6.out.cap⟩
                rcases HOK6.out.row with h | ⟨b, off, e, hb, hc⟩
                · exact .inl h
                · have hbz := HFR7.out b (by rw [e]; rfl)
                  refine .inr ⟨b, off, e, ?_, fun j v hv => ?_⟩
                  · rw [HW7.out, setRow_size]; exact hb
                  · rw [← hc j v hv, HW7.out]
                    unfold World.cell?
                    rw [heap_setRow _ _ _ b (by omega)])
              have HFAR := Lib.hid (show ∀ q, ob B6 = some q → W5.heap.size ≤ q from fun q hq => Nat.le_of_succ_le (HFR7.out q hq))
              refine ⟨(fun w' => Below W5.heap.size W5 w'), HB7.out, fun _ h => h, ?_⟩
              (try simp only [Act.put]); refine tree_fin ?_; simp only [pickOps, List.getElem?_toArray, List.getElem?_cons_zero, List.getElem?_cons_succ]; (repeat (first | go_big_quiet_skip | (go_big_quiet_want; first | (go_big_quiet_op; first | go_big_quiet_on | ((first | with_reducible refine ⟨_, fun _ _ => rfl, ?_⟩); go_big_quiet_on)) | (simp (contextual := true) [go_sem, HB7]; with_reducible refine ⟨_, fun _ _ => rfl, ?_⟩; go_big_quiet_on)))); refine wpQuiet_nil ?_
              clear LT F1
              have p7 := F0 w7 HB7.out
              have HT7 := Lib.hid ((HV.out.blk.below HB5.out HV.out.blk.lt).below HB7.out (Nat.lt_of_lt_of_le hzg HB5.out.size))
              have HW7b := Lib.hid (HK5.out.below HB7.out HK5.out.lt)
              have HP7 := Lib.hid ((HP.out.below HB5.out HP.out.lt).below HB7.out (Nat.lt_of_lt_of_le HP.out.lt HB5.out.size))
              have HBW7 := Lib.hid (HBW.out.trans (HB7.out.mono HBW.out.size))
              clear F0
              go_wp2_with (first | (refine wpList_load_rowW (by rfl) 28 _ rfl (w.heap.size + 1) rfl 28 (thArr t' B' d') (0, 0) _ HT7.out Tryd.underlying28 rfl HS1.out ?_) | (refine wpList_load_rowW (by rfl) 28 _ rfl w3.heap.size rfl 28 (thArr t' A3 c3) (0, 0) _ HW7b.out Tryd.underlying28 rfl HS3.out ?_))
              refine (vmSame_any t' t' B' A3 d' c3 w7 ((HV.out.ok.step HB5.out).step HB7.out) (HO5.out.step HB7.out)).mono ?_
              rintro e w8 ⟨rfl, hb8⟩
              rw [sameT_self]
              have HB8 := Lib.hid hb8
              have p8 := (HP7.out.below hb8 HP7.out.lt).cell 0
              simp only [List.getElem?_toArray, List.getElem?_cons_zero] at p8
              have HU8 := Lib.hid (HU7.out.below hb8 HU7.out.lt)
              have HT8 := Lib.hid (HT7.out.below hb8 HT7.out.lt)
              have HBW8 := Lib.hid (HBW7.out.trans (hb8.mono HBW7.out.size))
              clear hb8 p7
              go_wp2_with (refine wpList_load_rowW (by rfl) 28 _ rfl W5.heap.size rfl 28 (thArr u B6 d6) (0, 0) _ HU8.out Tryd.underlying28 rfl HS6.out ?_)
              refine (vmFits_any u A B6 c d6 fs w8 (HTA.out.step HBW8.out) HM.out (HF.out.step HBW8.out) (HO7.out.step HB8.out)).mono ?_
              rintro e w9 ⟨rfl, hb9⟩
              rw [HFIT6.out]
              have HB9 := Lib.hid hb9
              have HBW9 := Lib.hid (HBW8.out.trans (hb9.mono HBW8.out.size))
              have HU9 := Lib.hid (HU8.out.below hb9 HU8.out.lt)
              have HT9 := Lib.hid (HT8.out.below hb9 HT8.out.lt)
              have HP9 := Lib.hid ((HP7.out.below HB8.out HP7.out.lt).below hb9 (Nat.lt_of_lt_of_le HP7.out.lt HB8.out.size))
              have HO9 := Lib.hid ((HO7.out.step HB8.out).step hb9)
              have c11 := (HT9.out.cell 11).trans (thArr_11 B' d' HV.out.ok.regs)
              clear hb9 p8
              cases hdn : t'.done with
              | true =>
                have hdd := HDID.out
                rw [hdn] at hdd c11
                have HSS := Lib.hid (show sameT u t' = true by rw [HSAME.out hdn]; exact sameT_self _)
                simp only [Bool.not_true] at hdd
                subst hdd
                clear hdn
                go_wp2_with (first | (refine wpList_load_rowW (by rfl) 28 _ rfl W5.heap.size rfl 28 (thArr u B6 d6) (0, 0) _ HU9.out Tryd.underlying28 rfl HS6.out ?_) | (refine wpList_load_rowW (by rfl) 28 _ rfl (w.heap.size + 1) rfl 28 (thArr t' B' d') (0, 0) _ HT9.out Tryd.underlying28 rfl HS1.out ?_))
                refine (vmSame_any u t' B6 B' d6 d' w9 HO9.out ((((HV.out.ok.step HB5.out).step HB7.out).step HB8.out).step HB9.out)).mono ?_
                rintro e w10 ⟨rfl, hb10⟩
                rw [HSS.out]
                have HUX := Lib.hid (HU9.out.below hb10 HU9.out.lt)
                have HTX := Lib.hid (HT9.out.below hb10 HT9.out.lt)
                have HPX := Lib.hid (HP9.out.below hb10 HP9.out.lt)
                have HOX := Lib.hid (HO9.out.step hb10)
                have HBX := Lib.hid (HBW9.out.trans (hb10.mono HBW9.out.size))
                clear hb10 c11
                go_wp2_with (first | (refine wpList_load_rowW (by rfl) 28 _ rfl W5.heap.size rfl 28 (thArr u B6 d6) (0, 0) _ HUX.out Tryd.underlying28 rfl HS6.out ?_) | (refine wpList_store_row rfl 28 _ _ rfl (w.heap.size + 1) (thArr u B6 d6) rfl rfl 28 _ HTX.out HS6.out (by rw [thArr_size B' d' HV.out.ok.regs, thArr_size B6 d6 HOK6.out.regs]) (thArr_one u B6 d6) ?_))
                go_roundw
                case rel =>
                  refine ⟨k + 1, u, B6, d6, by omega, by go_num, ⟨HTX.out.setRow _, ?_, ?_, HFIT6.out, HST6.out, ?_⟩, HPX.out.farRow (by omega) _⟩
                  · refine ⟨HOK6.out.regs, ?_, HOK6.out.len, HOK6.out.cap⟩
                    rcases HOX.out.row with h | ⟨b, off, e, hb, hc⟩
                    · exact .inl h
                    · have hbz := HFAR.out b (by rw [e]; rfl)
                      have := HB5.out.size
                      refine .inr ⟨b, off, e, by rw [setRow_size]; exact hb, fun j v hv => ?_⟩
                      rw [← hc j v hv]
                      unfold World.cell?
                      rw [heap_setRow _ _ _ b (by omega)]
                  · right
                    intro q hq
                    have := HFAR.out q hq
                    have := HB5.out.size
                    omega
                  · exact below_setRow HBX.out (by omega) HBX.out.size _
                case measure => simp [intOf]; omega
              | false =>
                have hdd := HDID.out
                rw [hdn] at hdd c11
                simp only [Bool.not_false] at hdd
                subst hdd
                clear hdn
                have HUX := HU9
                have HTX := HT9
                have HPX := HP9
                have HOX := HO9
                have HBX := HBW9
                go_wp2_with (first | (refine wpList_load_rowW (by rfl) 28 _ rfl W5.heap.size rfl 28 (thArr u B6 d6) (0, 0) _ HUX.out Tryd.underlying28 rfl HS6.out ?_) | (refine wpList_store_row rfl 28 _ _ rfl (w.heap.size + 1) (thArr u B6 d6) rfl rfl 28 _ HTX.out HS6.out (by rw [thArr_size B' d' HV.out.ok.regs, thArr_size B6 d6 HOK6.out.regs]) (thArr_one u B6 d6) ?_))
                go_roundw
                case rel =>
                  refine ⟨k + 1, u, B6, d6, by omega, by go_num, ⟨HTX.out.setRow _, ?_, ?_, HFIT6.out, HST6.out, ?_⟩, HPX.out.farRow (by omega) _⟩
                  · refine ⟨HOK6.out.regs, ?_, HOK6.out.len, HOK6.out.cap⟩
                    rcases HOX.out.row with h | ⟨b, off, e, hb, hc⟩
                    · exact .inl h
                    · have hbz := HFAR.out b (by rw [e]; rfl)
                      have := HB5.out.size
                      refine .inr ⟨b, off, e, by rw [setRow_size]; exact hb, fun j v hv => ?_⟩
                      rw [← hc j v hv]
                      unfold World.cell?
                      rw [heap_setRow _ _ _ b (by omega)]
                  · right
                    intro q hq
                    have := HFAR.out q hq
                    have := HB5.out.size
                    omega
                  · exact below_setRow HBX.out (by omega) HBX.out.size _
                case measure => simp [intOf]; omega
          · have hkn : k = n := by omega
            subst hkn
            go_wp2_with (go_at_call 9; refine (alive11 _ (HTA.out.step HV.out.bel)).mono ?_; rintro e w3 ⟨rfl, hb⟩; have HB3 := Lib.hid hb; clear hb)
            go_ret
            exact ⟨rfl, HV.out.bel.trans (HB3.out.mono HV.out.bel.size)⟩
end Go.Proofs.YtoacnphgkgklcaaDoor

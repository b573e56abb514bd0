/-
  Chapter 12: the law AloneGrows returns true, whatever is handed in. Condition: the table isa.rows.
-/
import Derived.Test.YtoacnphgkgklcaaDoorGrow12
import Derived.Test.YtoacnphgkgklcaaDoorBad12
import Derived.Test.YtoacnphgkgklcaaDoorNum12
import Derived.Test.YtoacnphgkgklcaaDoorLight9
namespace Go.Proofs.YtoacnphgkgklcaaDoor
open Go.RowKit
theorem sameT_refl12 (t : Th) : sameT t t = true := by simp [sameT]
/-- What the law asks of two runs. -/
theorem grow_plain (fs : List Fn) (n m : Nat) (hn : n ≤ 1000) (hm : m ≤ 1000) :
    (runR fs (n + m)).2 = (runR fs n).2 ∧ (runR fs n).1.emits.length ≤ (runR fs (n + m)).1.emits.length ∧ (runR fs n).1.steps ≤ (runR fs (n + m)).1.steps ∧ (runR fs (n + m)).1.steps ≤ n + m
    ∧ ((runR fs n).1.th.done = true ∨ (runR fs n).1.stuck = true → (runR fs (n + m)).1 = (runR fs n).1)
    ∧ ((runR fs n).1.th.done = false → (runR fs n).1.stuck = false → (runR fs (n + m)).1.emits.take (runR fs n).1.emits.length = (runR fs n).1.emits ∧ ((runR fs n).2 = 1 ∨ (runR fs n).2 = 0 ∧ (runR fs n).1.steps = n))
    ∧ (runR fs (n + m)).1.emits.length ≤ 2000 := by
  by_cases hr : runB fs = true
  · have e1 : runR fs n = (runA fs n wd0, 0) := by unfold runR; rw [if_pos ⟨hr, by omega, by omega⟩]; rfl
    have e2 : runR fs (n + m) = (runA fs m (runA fs n wd0), 0) := by
      unfold runR
      rw [if_pos ⟨hr, by omega, by omega⟩, ← runA_add]
      congr 1
    rw [e1, e2]
    generalize hd : runA fs n wd0 = d
    have s1 := runA_steps fs n wd0
    have s2 := runA_steps fs m d
    have f2 := runA_front fs m d
    have l1 := runA_len fs n wd0
    have l2 := runA_len fs m d
    rw [hd] at s1 l1
    have z0 : wd0.steps = 0 := rfl
    have z1 : wd0.emits.length = 0 := rfl
    rw [z0] at s1
    rw [z1] at l1
    obtain ⟨ys, hy⟩ := f2
    simp only
    refine ⟨trivial, by rw [hy]; simp, s2.1, by omega, fun h => runA_stop fs m d h, fun h1 h2 => ⟨by rw [hy]; simp, .inr ⟨trivial, ?_⟩⟩, by omega⟩
    rcases s1.2.2 with h | h | h
    · rw [h1] at h; cases h
    · rw [h2] at h; cases h
    · omega
  · have e1 : runR fs n = (wd0, 1) := by unfold runR; rw [if_neg (fun h => hr h.1)]
    have e2 : runR fs (n + m) = (wd0, 1) := by unfold runR; rw [if_neg (fun h => hr h.1)]
    rw [e1, e2]
    have z0 : wd0.steps = 0 := rfl
    have z1 : wd0.emits = [] := rfl
    simp only [z0, z1]
    refine ⟨trivial, Nat.le_refl _, Int.le_refl _, by omega, fun _ => trivial, fun _ _ => ⟨rfl, .inl trivial⟩, Nat.zero_le _⟩
theorem row_take {w : World} {B : Nat} {A : Option Addr} {xs : List Int} (h : Row w B A (ints xs)) (k : Nat) : Row w B A (ints (xs.take k)) := by
  rcases h with h | ⟨b, off, e, hb, hc⟩
  · left
    unfold ints at h ⊢
    rw [List.map_eq_nil_iff] at h
    rw [h]; simp
  · refine .inr ⟨b, off, e, hb, fun j u hu => hc j u ?_⟩
    unfold ints at hu ⊢
    rw [List.map_take, List.getElem?_take] at hu
    split at hu
    · exact hu
    · cases hu
theorem put_res (w : World) (t : TypeId) (Z X : Array Value) : Blk ((w.alloc (.cells Z t)).setRow w.heap.size X) w.heap.size t X ∧ Below w.heap.size w ((w.alloc (.cells Z t)).setRow w.heap.size X) :=
  ⟨(Blk.new w _ _).setRow _, below_setRow ((Below.refl _ _).alloc (Nat.le_refl _) _) (Nat.le_refl _) (by simp) _⟩
/-- What is known of a result's cells. -/
structure ResX (d : Wd) (E : Option Addr) (ce : Nat) (B : Option Addr) (cb : Nat) (X : Array Value) : Prop where
  c0 : X[0]? = some (.slice E d.emits.length ce)
  c1 : X[1]? = some (.int .i64 d.steps)
  c13 : X[13]? = some (.bool d.th.done)
  c14 : X[14]? = some (.bool d.stuck)
  sub : ∀ j, j < (thArr d.th B cb).size → X[2 + j]? = (thArr d.th B cb)[j]?
  size : X.size = 15
  one : X.all (·.oneCell') = true
theorem resX (d : Wd) (E : Option Addr) (ce : Nat) (B : Option Addr) (cb : Nat) (h : d.th.regs.length = 8) : ResX d E ce B cb (resArr d E ce B cb) :=
  ⟨resArr_0 _ _ _ _ _, resArr_1 _ _ _ _ _, (resArr_th E ce B cb h 11 (by omega)).trans (thArr_11 B cb h), resArr_14 _ _ _ _ h, fun j hj => resArr_th E ce B cb h j (by rw [thArr_size B cb h] at hj; exact hj), resArr_size E ce B cb h, resArr_one E ce B cb⟩
set_option maxHeartbeats 4000000 in
set_option maxRecDepth 100000 in
theorem grows12 (A : Option Addr) (c : Nat) (fs : List Fn) (x y : Int) (w : World) (hT : Tab w) (hm : fs.length ≤ maxLen) (hf : FnsOk w w.heap.size A fs) :
    Calls Tryd.prog 6 #[.agg #[.slice A fs.length c], .int .i64 x, .int .i64 y] w fun e w' => e = .returned (.bool true) ∧ Below w.heap.size w w' := by
  have HTA := Lib.hid hT
  have HF := Lib.hid hf
  have HM := Lib.hid hm
  have hW : ∃ W : World, Hid (W = w.alloc (.cells #[.slice A fs.length c] 24)) := ⟨_, rfl⟩
  obtain ⟨W, HW⟩ := hW
  have HB0 := Lib.hid (show Below w.heap.size w W by rw [HW.out]; exact (Below.refl _ _).alloc (Nat.le_refl _) _)
  have HBP := Lib.hid (show Blk W w.heap.size 24 #[.slice A fs.length c] by rw [HW.out]; exact Blk.new w _ _)
  clear hT hf hm
  go_enter Tryd.func6, Tryd.ntmps6
  go_wp2_with fail
  rw [← HW.out]
  refine (light_any A c fs W HM.out (HF.out.step HB0.out)).mono ?_
  rintro e w1 ⟨rfl, hb1⟩
  have HB1 := Lib.hid (HB0.out.trans (hb1.mono HB0.out.size))
  have HBP1 := Lib.hid (HBP.out.below hb1 HBP.out.lt)
  have kp := HBP1.out.cell 0
  simp only [List.getElem?_toArray, List.getElem?_cons_zero] at kp
  clear hb1
  have five : lightP fs = false ∨ (lightP fs = true ∧ decide (x < 0) = true) ∨ (lightP fs = true ∧ decide (x < 0) = false ∧ decide (1000 < x) = true) ∨ (lightP fs = true ∧ decide (x < 0) = false ∧ decide (1000 < x) = false ∧ decide (y < 0) = true)
      ∨ (lightP fs = true ∧ decide (x < 0) = false ∧ decide (1000 < x) = false ∧ decide (y < 0) = false ∧ decide (1000 < y) = true) ∨ (lightP fs = true ∧ decide (x < 0) = false ∧ decide (1000 < x) = false ∧ decide (y < 0) = false ∧ decide (1000 < y) = false) := by
    cases lightP fs <;> cases decide (x < 0) <;> cases decide (1000 < x) <;> cases decide (y < 0) <;> cases decide (1000 < y) <;> simp
  rcases five with h1 | ⟨h1, h2⟩ | ⟨h1, h2, h3⟩ | ⟨h1, h2, h3, h4⟩ | ⟨h1, h2, h3, h4, h5⟩ | ⟨h1, h2, h3, h4, h5⟩
  case inr.inr.inr.inr.inr =>
    rw [decide_eq_false_iff_not] at h2 h3 h4 h5
    obtain ⟨n, rfl⟩ := Int.eq_ofNat_of_zero_le (show 0 ≤ x by omega)
    obtain ⟨m, rfl⟩ := Int.eq_ofNat_of_zero_le (show 0 ≤ y by omega)
    have hn : n ≤ 1000 := by omega
    have hm : m ≤ 1000 := by omega
    have j2 : decide ((n : Int) < 0) = false := by simp
    have j3 : decide ((1000 : Int) < n) = false := by simp; omega
    have j4 : decide ((m : Int) < 0) = false := by simp
    have j5 : decide ((1000 : Int) < m) = false := by simp; omega
    clear h2 h3 h4 h5
    rw [h1]
    have HGP := Lib.hid (grow_plain fs n m hn hm)
    go_wp2_with fail
    refine (run_any A c fs n w1 (HTA.out.step HB1.out) HM.out (HF.out.step HB1.out)).mono ?_
    rintro e w2 ⟨E, ce, B, cb, rfl, hr, h1, h2, hk, hb2⟩
    have HB2 := Lib.hid (HB1.out.trans (hb2.mono HB1.out.size))
    have HBP2 := Lib.hid (HBP1.out.below hb2 HBP1.out.lt)
    generalize hra : runR fs n = ra at *
    obtain ⟨a, f⟩ := ra
    simp only at hr h1 h2 hk ⊢
    simp only at HGP
    have HXA := Lib.hid (resX a E ce B cb hk.regs)
    have HRA := Lib.hid hr
    have HKA := Lib.hid hk
    have HSZA := Lib.hid (show (Tryd.prog.info? 46).map (·.size) = some (resArr a E ce B cb).size by rw [HXA.out.size]; exact Tryd.infoRes)
    clear hra hr hk hb2 h1 h2 kp
    generalize resArr a E ce B cb = X at *
    have hW3 : ∃ W3 : World, Hid (W3 = (w2.alloc (.cells #[.slice none 0 0, .int .i64 0, .int .i64 0, .int .i64 0, .int .i64 0, .int .i64 0, .int .i64 0, .int .i64 0, .int .i64 0, .int .i64 0, .int .i64 0, .int .i64 0, .slice none 0 0, .bool false, .bool false] 46)).setRow w2.heap.size X) := ⟨_, rfl⟩
    obtain ⟨W3, HW3⟩ := hW3
    have HP3 := Lib.hid (put_res w2 46 #[.slice none 0 0, .int .i64 0, .int .i64 0, .int .i64 0, .int .i64 0, .int .i64 0, .int .i64 0, .int .i64 0, .int .i64 0, .int .i64 0, .int .i64 0, .int .i64 0, .slice none 0 0, .bool false, .bool false] X)
    rw [← HW3.out] at HP3
    have HB3 := Lib.hid (HB2.out.trans (HP3.out.2.mono HB2.out.size))
    have HBP3 := Lib.hid (HBP2.out.below HP3.out.2 HBP2.out.lt)
    have HBA3 := Lib.hid HP3.out.1
    have HRA3 := Lib.hid ((HRA.out.below HP3.out.2).more HP3.out.2.size)
    have HKA3 := Lib.hid (HKA.out.step HP3.out.2)
    have kp := HBP3.out.cell 0
    simp only [List.getElem?_toArray, List.getElem?_cons_zero] at kp
    have hga : ∃ gA : Nat, Hid (gA = w2.heap.size) := ⟨_, rfl⟩
    obtain ⟨gA, HGA⟩ := hga
    rw [← HGA.out] at HBA3
    go_wp2_with (refine wpList_store_row rfl 46 _ _ rfl w2.heap.size X rfl rfl 46 _ (Blk.new w2 _ _) HSZA.out (by rw [HXA.out.size]; rfl) HXA.out.one ?_; rw [← HW3.out])
    rw [← HGA.out]
    have hnm : ((n : Int) + (m : Int)) = ((n + m : Nat) : Int) := by omega
    have HNM := Lib.hid hnm
    clear hnm
    refine (run_any A c fs ((n : Int) + (m : Int)) W3 (HTA.out.step HB3.out) HM.out (HF.out.step HB3.out)).mono ?_
    rintro e w4 ⟨E', ce', B', cb', rfl, hr, h1, h2, hk, hb4⟩
    have HB4 := Lib.hid (HB3.out.trans (hb4.mono HB3.out.size))
    have HBA4 := Lib.hid (HBA3.out.below hb4 HBA3.out.lt)
    have HRA4 := Lib.hid ((HRA3.out.below hb4).more hb4.size)
    have HKA4 := Lib.hid (HKA3.out.step hb4)
    generalize runR fs ((n : Int) + (m : Int)) = rb at *
    obtain ⟨b, f'⟩ := rb
    simp only at hr h1 h2 hk ⊢
    simp only at HGP
    obtain ⟨g1, g2, g3, g4, g5, g6, g7⟩ := HGP.out
    subst g1
    have HG5 := Lib.hid g5
    have HG6 := Lib.hid g6
    have HXB := Lib.hid (resX b E' ce' B' cb' hk.regs)
    have HRB := Lib.hid hr
    have HKB := Lib.hid hk
    have HCB := Lib.hid h1
    have HCM := Lib.hid h2
    have HSZB := Lib.hid (show (Tryd.prog.info? 46).map (·.size) = some (resArr b E' ce' B' cb').size by rw [HXB.out.size]; exact Tryd.infoRes)
    clear hr hk hb4 h1 h2 kp g5 g6
    generalize resArr b E' ce' B' cb' = Y at *
    have hW5 : ∃ W5 : World, Hid (W5 = (w4.alloc (.cells #[.slice none 0 0, .int .i64 0, .int .i64 0, .int .i64 0, .int .i64 0, .int .i64 0, .int .i64 0, .int .i64 0, .int .i64 0, .int .i64 0, .int .i64 0, .int .i64 0, .slice none 0 0, .bool false, .bool false] 46)).setRow w4.heap.size Y) := ⟨_, rfl⟩
    obtain ⟨W5, HW5⟩ := hW5
    have HP5 := Lib.hid (put_res w4 46 #[.slice none 0 0, .int .i64 0, .int .i64 0, .int .i64 0, .int .i64 0, .int .i64 0, .int .i64 0, .int .i64 0, .int .i64 0, .int .i64 0, .int .i64 0, .int .i64 0, .slice none 0 0, .bool false, .bool false] Y)
    rw [← HW5.out] at HP5
    have HB5 := Lib.hid (HB4.out.trans (HP5.out.2.mono HB4.out.size))
    have HBA5 := Lib.hid (HBA4.out.below HP5.out.2 HBA4.out.lt)
    have HRA5 := Lib.hid ((HRA4.out.below HP5.out.2).more HP5.out.2.size)
    have HKA5 := Lib.hid (HKA4.out.step HP5.out.2)
    have HRB5 := Lib.hid ((HRB.out.below HP5.out.2).more HP5.out.2.size)
    have HKB5 := Lib.hid (HKB.out.step HP5.out.2)
    have HBB5 := Lib.hid HP5.out.1
    have hgb : ∃ gB : Nat, Hid (gB = w4.heap.size) := ⟨_, rfl⟩
    obtain ⟨gB, HGB⟩ := hgb
    rw [← HGB.out] at HBB5
    have a0 := (HBA5.out.cell 0).trans HXA.out.c0
    have a1 := (HBA5.out.cell 1).trans HXA.out.c1
    have a13 := (HBA5.out.cell 13).trans HXA.out.c13
    have a14 := (HBA5.out.cell 14).trans HXA.out.c14
    have b0 := (HBB5.out.cell 0).trans HXB.out.c0
    have b1 := (HBB5.out.cell 1).trans HXB.out.c1
    have b14 := (HBB5.out.cell 14).trans HXB.out.c14
    have z2 : decide ((b.emits.length : Int) < (a.emits.length : Int)) = false := by simp; omega
    have z2' : decide (b.emits.length < a.emits.length) = false := by simp; omega
    have z3 : decide (b.steps < a.steps) = false := by simp; omega
    have z4 : decide ((n : Int) + (m : Int) < b.steps) = false := by simp; omega
    clear g2 g3 g4 j2 j3 j4 j5
    by_cases hS : a.th.done = true ∨ a.stuck = true
    · have hba := HG5.out hS
      subst hba
      have HSZT := Lib.hid (show (Tryd.prog.info? 28).map (·.size) = some (thArr b.th B cb).size by rw [thArr_size B cb HKA.out.regs]; exact Tryd.infoTh)
      have HSZU := Lib.hid (show (Tryd.prog.info? 28).map (·.size) = some (thArr b.th B' cb').size by rw [thArr_size B' cb' HKB.out.regs]; exact Tryd.infoTh)
      have two : Hid (b.th.done = true) ∨ Hid (b.th.done = false ∧ b.stuck = true) := by
        cases hd : b.th.done with
        | true => exact .inl rfl
        | false =>
          right
          rcases hS with h | h
          · rw [hd] at h; cases h
          · exact ⟨rfl, h⟩
      clear hS HGP HG5 HG6
      rcases two with H1 | H1
      · rw [H1.out] at a13
        go_wp2_with (first | (refine wpList_store_row rfl 46 _ _ rfl w4.heap.size Y rfl rfl 46 _ (Blk.new w4 _ _) HSZB.out (by rw [HXB.out.size]; rfl) HXB.out.one ?_; rw [← HW5.out, ← HGB.out]) | (refine wpList_load_subW (by rfl) 28 _ rfl gA 2 rfl 46 X (thArr b.th B cb) _ HBA5.out HXA.out.sub Tryd.underlying28 rfl HSZT.out ?_) | (refine wpList_load_subW (by rfl) 28 _ rfl gB 2 rfl 46 Y (thArr b.th B' cb') _ HBB5.out HXB.out.sub Tryd.underlying28 rfl HSZU.out ?_))
        refine (rSame_any b.th b.th B B' cb cb' W5 HKA5.out HKB5.out).mono ?_
        rintro e w6 ⟨rfl, hb6⟩
        rw [sameT_refl12]
        have HB6 := Lib.hid (HB5.out.trans (hb6.mono HB5.out.size))
        clear hb6
        go_wp2_with fail
        refine (alive12 w6 (HTA.out.step HB6.out)).mono ?_
        rintro e w7 ⟨rfl, hb⟩
        have HB7 := Lib.hid (HB6.out.trans (hb.mono HB6.out.size))
        clear hb
        go_wp2_with fail
        go_ret
        exact ⟨rfl, HB7.out⟩
      · rw [H1.out.1] at a13
        rw [H1.out.2] at a14 b14
        go_wp2_with (first | (refine wpList_store_row rfl 46 _ _ rfl w4.heap.size Y rfl rfl 46 _ (Blk.new w4 _ _) HSZB.out (by rw [HXB.out.size]; rfl) HXB.out.one ?_; rw [← HW5.out, ← HGB.out]) | (refine wpList_load_subW (by rfl) 28 _ rfl gA 2 rfl 46 X (thArr b.th B cb) _ HBA5.out HXA.out.sub Tryd.underlying28 rfl HSZT.out ?_) | (refine wpList_load_subW (by rfl) 28 _ rfl gB 2 rfl 46 Y (thArr b.th B' cb') _ HBB5.out HXB.out.sub Tryd.underlying28 rfl HSZU.out ?_))
        refine (rSame_any b.th b.th B B' cb cb' W5 HKA5.out HKB5.out).mono ?_
        rintro e w6 ⟨rfl, hb6⟩
        rw [sameT_refl12]
        have HB6 := Lib.hid (HB5.out.trans (hb6.mono HB5.out.size))
        clear hb6
        go_wp2_with fail
        refine (alive12 w6 (HTA.out.step HB6.out)).mono ?_
        rintro e w7 ⟨rfl, hb⟩
        have HB7 := Lib.hid (HB6.out.trans (hb.mono HB6.out.size))
        clear hb
        go_wp2_with fail
        go_ret
        exact ⟨rfl, HB7.out⟩
    · have hd : a.th.done = false := by
        cases h : a.th.done with
        | true => exact (hS (.inl h)).elim
        | false => rfl
      have hs : a.stuck = false := by
        cases h : a.stuck with
        | true => exact (hS (.inr h)).elim
        | false => rfl
      obtain ⟨htk, hff⟩ := HG6.out hd hs
      have HTK := Lib.hid htk
      have hslc : a.emits.length ≤ ce' := by
        have h8 := HCB.out
        have h9 : (b.emits.take a.emits.length).length = a.emits.length := by rw [htk]
        rw [List.length_take] at h9
        omega
      rw [hd] at a13
      rw [hs] at a14
      clear hS hd hs htk HGP HG5 HG6
      have hla : a.emits.length ≤ 2000 := by
        have h9 : (b.emits.take a.emits.length).length = a.emits.length := by rw [HTK.out]
        rw [List.length_take] at h9
        omega
      rcases hff with rfl | ⟨rfl, hst⟩
      · go_wp2_with (refine wpList_store_row rfl 46 _ _ rfl w4.heap.size Y rfl rfl 46 _ (Blk.new w4 _ _) HSZB.out (by rw [HXB.out.size]; rfl) HXB.out.one ?_; rw [← HW5.out, ← HGB.out])
        have F0 : ∀ w', Below W5.heap.size W5 w' → w'.cell? ⟨gB, 0, none⟩ = some (.slice E' b.emits.length ce') := fun w' h => (h.cell (p := ⟨gB, 0, none⟩) HBB5.out.lt).trans b0
        have F1 : ∀ w', Below W5.heap.size W5 w' → w'.cell? ⟨gA, 0, none⟩ = some (.slice E a.emits.length ce) := fun w' h => (h.cell (p := ⟨gA, 0, none⟩) HBA5.out.lt).trans a0
        have F2 : ∀ w', Below W5.heap.size W5 w' → w'.cell? ⟨gA, 1, none⟩ = some (.int .i64 a.steps) := fun w' h => (h.cell (p := ⟨gA, 1, none⟩) HBA5.out.lt).trans a1
        refine region_sch (fun w' => Below W5.heap.size W5 w') [([0, 1, 2, 3, 4, 5, 6, 7], 8), ([9, 10, 11, 12, 13, 14, 15, 16, 17, 18, 19], 20)] [21, 22] (by kernel_rfl) (by kernel_rfl) (by kernel_rfl) (fun _ _ d _ _ h => by cases d <;> exact h) (Below.refl _ _).drew ?_
        (try simp only [Act.put, List.setIfInBounds_toArray, List.set_cons_zero, List.set_cons_succ]); refine sch_seg ?_; simp only [pickOps, List.getElem?_toArray, List.getElem?_cons_zero, List.getElem?_cons_succ]; (repeat (first | go_big_quiet_skip | (go_big_quiet_want; first | (go_big_quiet_op; first | go_big_quiet_on | ((first | with_reducible refine ⟨_, fun _ _ => rfl, ?_⟩); go_big_quiet_on)) | (simp (contextual := true) [go_sem, F0, F1]; with_reducible refine ⟨_, fun _ _ => rfl, ?_⟩; go_big_quiet_on)))); refine wpQuiet_nil ?_
        go_wp2_with fail
        refine (numbers_any E' E a.emits.length a.emits.length ce' ce (b.emits.take a.emits.length) a.emits W5.drew (by rw [HTK.out]) rfl (by unfold maxLen; omega) (by unfold maxLen; omega) (row_take HRB5.out _) HRA5.out).mono ?_
        rintro e w6 ⟨rfl, hb6⟩
        rw [show decide (List.take a.emits.length b.emits = a.emits) = true from decide_eq_true HTK.out]
        have HB6 := Lib.hid ((Below.refl W5.heap.size W5).drew.trans hb6)
        clear hb6
        go_wp2_with fail
        refine ⟨fun w' => Below W5.heap.size W5 w', HB6.out, fun _ h => h, ?_⟩
        (try simp only [Act.put, List.setIfInBounds_toArray, List.set_cons_zero, List.set_cons_succ]); refine sch_seg ?_; simp only [pickOps, List.getElem?_toArray, List.getElem?_cons_zero, List.getElem?_cons_succ]; (repeat (first | go_big_quiet_skip | (go_big_quiet_want; first | (go_big_quiet_op; first | go_big_quiet_on | ((first | with_reducible refine ⟨_, fun _ _ => rfl, ?_⟩); go_big_quiet_on)) | (simp (contextual := true) [go_sem, F0, F2]; with_reducible refine ⟨_, fun _ _ => rfl, ?_⟩; go_big_quiet_on)))); refine wpQuiet_nil ?_
        go_wp2_with fail
        refine (alive12 w6 (HTA.out.step (HB5.out.trans (HB6.out.mono HB5.out.size)))).mono ?_
        rintro e w7 ⟨rfl, hb7⟩
        have HB7 := Lib.hid (HB6.out.trans (hb7.mono HB6.out.size))
        clear hb7
        go_wp2_with fail
        refine ⟨fun w' => Below W5.heap.size W5 w', HB7.out, fun _ h => h, ?_⟩
        (try simp only [Act.put, List.setIfInBounds_toArray, List.set_cons_zero, List.set_cons_succ]); refine sch_end ?_; simp only [pickOps, List.getElem?_toArray, List.getElem?_cons_zero, List.getElem?_cons_succ]; (repeat (first | go_big_quiet_skip | (go_big_quiet_want; first | (go_big_quiet_op; first | go_big_quiet_on | ((first | with_reducible refine ⟨_, fun _ _ => rfl, ?_⟩); go_big_quiet_on)) | (simp (contextual := true) [go_sem, F0]; with_reducible refine ⟨_, fun _ _ => rfl, ?_⟩; go_big_quiet_on)))); refine wpQuiet_nil ?_
        go_wp2_with fail
        go_ret
        exact ⟨rfl, HB5.out.trans (HB7.out.mono HB5.out.size)⟩
      · have HST := Lib.hid (show (a.steps == (n : Int)) = true by simpa using hst)
        clear hst
        go_wp2_with (refine wpList_store_row rfl 46 _ _ rfl w4.heap.size Y rfl rfl 46 _ (Blk.new w4 _ _) HSZB.out (by rw [HXB.out.size]; rfl) HXB.out.one ?_; rw [← HW5.out, ← HGB.out])
        have hst := HST.out
        have F0 : ∀ w', Below W5.heap.size W5 w' → w'.cell? ⟨gB, 0, none⟩ = some (.slice E' b.emits.length ce') := fun w' h => (h.cell (p := ⟨gB, 0, none⟩) HBB5.out.lt).trans b0
        have F1 : ∀ w', Below W5.heap.size W5 w' → w'.cell? ⟨gA, 0, none⟩ = some (.slice E a.emits.length ce) := fun w' h => (h.cell (p := ⟨gA, 0, none⟩) HBA5.out.lt).trans a0
        have F2 : ∀ w', Below W5.heap.size W5 w' → w'.cell? ⟨gA, 1, none⟩ = some (.int .i64 a.steps) := fun w' h => (h.cell (p := ⟨gA, 1, none⟩) HBA5.out.lt).trans a1
        refine region_sch (fun w' => Below W5.heap.size W5 w') [([0, 1, 2, 3, 4, 5, 6, 7], 8), ([9, 10, 11, 12, 13, 14, 15, 16, 17, 18, 19], 20)] [21, 22] (by kernel_rfl) (by kernel_rfl) (by kernel_rfl) (fun _ _ d _ _ h => by cases d <;> exact h) (Below.refl _ _).drew ?_
        (try simp only [Act.put, List.setIfInBounds_toArray, List.set_cons_zero, List.set_cons_succ]); refine sch_seg ?_; simp only [pickOps, List.getElem?_toArray, List.getElem?_cons_zero, List.getElem?_cons_succ]; (repeat (first | go_big_quiet_skip | (go_big_quiet_want; first | (go_big_quiet_op; first | go_big_quiet_on | ((first | with_reducible refine ⟨_, fun _ _ => rfl, ?_⟩); go_big_quiet_on)) | (simp (contextual := true) [go_sem, F0, F1]; with_reducible refine ⟨_, fun _ _ => rfl, ?_⟩; go_big_quiet_on)))); refine wpQuiet_nil ?_
        go_wp2_with fail
        refine (numbers_any E' E a.emits.length a.emits.length ce' ce (b.emits.take a.emits.length) a.emits W5.drew (by rw [HTK.out]) rfl (by unfold maxLen; omega) (by unfold maxLen; omega) (row_take HRB5.out _) HRA5.out).mono ?_
        rintro e w6 ⟨rfl, hb6⟩
        rw [show decide (List.take a.emits.length b.emits = a.emits) = true from decide_eq_true HTK.out]
        have HB6 := Lib.hid ((Below.refl W5.heap.size W5).drew.trans hb6)
        clear hb6
        go_wp2_with fail
        refine ⟨fun w' => Below W5.heap.size W5 w', HB6.out, fun _ h => h, ?_⟩
        (try simp only [Act.put, List.setIfInBounds_toArray, List.set_cons_zero, List.set_cons_succ]); refine sch_seg ?_; simp only [pickOps, List.getElem?_toArray, List.getElem?_cons_zero, List.getElem?_cons_succ]; (repeat (first | go_big_quiet_skip | (go_big_quiet_want; first | (go_big_quiet_op; first | go_big_quiet_on | ((first | with_reducible refine ⟨_, fun _ _ => rfl, ?_⟩); go_big_quiet_on)) | (simp (contextual := true) [go_sem, F2]; with_reducible refine ⟨_, fun _ _ => rfl, ?_⟩; go_big_quiet_on)))); refine wpQuiet_nil ?_
        go_wp2_with fail
        refine (alive12 w6 (HTA.out.step (HB5.out.trans (HB6.out.mono HB5.out.size)))).mono ?_
        rintro e w7 ⟨rfl, hb7⟩
        have HB7 := Lib.hid (HB6.out.trans (hb7.mono HB6.out.size))
        clear hb7
        go_wp2_with fail
        refine ⟨fun w' => Below W5.heap.size W5 w', HB7.out, fun _ h => h, ?_⟩
        (try simp only [Act.put, List.setIfInBounds_toArray, List.set_cons_zero, List.set_cons_succ]); refine sch_end ?_; simp only [pickOps, List.getElem?_toArray, List.getElem?_cons_zero, List.getElem?_cons_succ]; (repeat (first | go_big_quiet_skip | (go_big_quiet_want; first | (go_big_quiet_op; first | go_big_quiet_on | ((first | with_reducible refine ⟨_, fun _ _ => rfl, ?_⟩); go_big_quiet_on)) | (simp (contextual := true) [go_sem, F0]; with_reducible refine ⟨_, fun _ _ => rfl, ?_⟩; go_big_quiet_on)))); refine wpQuiet_nil ?_
        go_wp2_with fail
        go_ret
        exact ⟨rfl, HB5.out.trans (HB7.out.mono HB5.out.size)⟩
  all_goals
    go_wp2_with fail
    refine (alive12 w1 (HTA.out.step HB1.out)).mono ?_
    rintro e w2 ⟨rfl, hb⟩
    have HB2 := Lib.hid (HB1.out.trans (hb.mono HB1.out.size))
    clear hb
    go_wp2_with fail
    go_ret
    exact ⟨rfl, HB2.out⟩
end Go.Proofs.YtoacnphgkgklcaaDoor

/-
  Proved: the card of AloneRuns: for every program and number of steps the law returns true. Conditions: the table isa.rows is laid as the program's text lays it (the card ties it).
-/
import Derived.Test.YtoacnphgkgklcaaDoorRun12
import Derived.Test.YtoacnphgkgklcaaDoorRows
import Derived.Test.YtoacnphgkgklcaaDoorMem
import Derived.Test.YtoacnphgkgklcaaDoorCalm
import Derived.WalkSpells
import Derived.WalkLawsBesides
import Derived.Test.YtoacnphgkgklcaaDoorRRun12
import Derived.Test.YtoacnphgkgklcaaDoorLight9
import Derived.Test.YtoacnphgkgklcaaDoorFrameD
namespace Go.Proofs.YtoacnphgkgklcaaDoor
open Go.RowKit
theorem runA_stop (fs : List Fn) (n : Nat) (d : Wd) (h : d.th.done = true ∨ d.stuck = true) : runA fs n d = d := by
  cases n with
  | zero => rfl
  | succ n => unfold runA; rw [if_pos h]
theorem runA_add (fs : List Fn) (m : Nat) : ∀ (n : Nat) (d : Wd), runA fs (n + m) d = runA fs m (runA fs n d)
  | 0, d => by rw [Nat.zero_add]; rfl
  | n + 1, d => by
    rw [show n + 1 + m = (n + m) + 1 by omega]
    show (if d.th.done = true ∨ d.stuck = true then d else runA fs (n + m) (stepA fs d)) = runA fs m (if d.th.done = true ∨ d.stuck = true then d else runA fs n (stepA fs d))
    by_cases h : d.th.done = true ∨ d.stuck = true
    · rw [if_pos h, if_pos h, runA_stop fs m d h]
    · rw [if_neg h, if_neg h, runA_add fs m n]
theorem doneA_front (d : Wd) (op n : Int) : ∃ ys, (doneA d op n).emits = d.emits ++ ys := by
  unfold doneA
  simp only
  split
  · exact ⟨[n], rfl⟩
  split
  · exact ⟨[], by simp⟩
  split
  · exact ⟨[], by simp⟩
  split
  · split <;> exact ⟨[], by simp⟩
  · exact ⟨[], by simp⟩
theorem stepA_steps (fs : List Fn) (d : Wd) : (stepA fs d).steps = d.steps + 1 := by
  unfold stepA
  simp only
  rw [doneA_steps]
theorem stepA_front (fs : List Fn) (d : Wd) : ∃ ys, (stepA fs d).emits = d.emits ++ ys := by
  unfold stepA
  simp only
  exact doneA_front _ _ _
theorem runA_steps (fs : List Fn) : ∀ (n : Nat) (d : Wd), d.steps ≤ (runA fs n d).steps ∧ (runA fs n d).steps ≤ d.steps + n ∧ ((runA fs n d).th.done = true ∨ (runA fs n d).stuck = true ∨ (runA fs n d).steps = d.steps + n)
  | 0, d => ⟨Int.le_refl _, by show d.steps ≤ _; omega, .inr (.inr (by show d.steps = _; omega))⟩
  | n + 1, d => by
    show d.steps ≤ (if d.th.done = true ∨ d.stuck = true then d else runA fs n (stepA fs d)).steps ∧ (if d.th.done = true ∨ d.stuck = true then d else runA fs n (stepA fs d)).steps ≤ _ ∧ ((if d.th.done = true ∨ d.stuck = true then d else runA fs n (stepA fs d)).th.done = true ∨ (if d.th.done = true ∨ d.stuck = true then d else runA fs n (stepA fs d)).stuck = true ∨ (if d.th.done = true ∨ d.stuck = true then d else runA fs n (stepA fs d)).steps = _)
    by_cases h : d.th.done = true ∨ d.stuck = true
    · rw [if_pos h]
      exact ⟨Int.le_refl _, by omega, h.imp id .inl⟩
    · rw [if_neg h]
      obtain ⟨h1, h2, h3⟩ := runA_steps fs n (stepA fs d)
      rw [stepA_steps] at h1 h2 h3
      refine ⟨by omega, by omega, ?_⟩
      rcases h3 with h3 | h3 | h3
      · exact .inl h3
      · exact .inr (.inl h3)
      · exact .inr (.inr (by omega))
theorem runA_front (fs : List Fn) : ∀ (n : Nat) (d : Wd), ∃ ys, (runA fs n d).emits = d.emits ++ ys
  | 0, d => ⟨[], by show d.emits = _; simp⟩
  | n + 1, d => by
    show ∃ ys, (if d.th.done = true ∨ d.stuck = true then d else runA fs n (stepA fs d)).emits = d.emits ++ ys
    by_cases h : d.th.done = true ∨ d.stuck = true
    · rw [if_pos h]; exact ⟨[], by simp⟩
    · rw [if_neg h]
      obtain ⟨ys, h1⟩ := runA_front fs n (stepA fs d)
      obtain ⟨zs, h2⟩ := stepA_front fs d
      exact ⟨zs ++ ys, by rw [h1, h2, List.append_assoc]⟩
theorem stepA_len (fs : List Fn) (d : Wd) : (stepA fs d).emits.length ≤ d.emits.length + 1 := by
  unfold stepA
  simp only
  exact doneA_emits _ _ _
theorem runA_len (fs : List Fn) : ∀ (n : Nat) (d : Wd), (runA fs n d).emits.length ≤ d.emits.length + n
  | 0, d => Nat.le_refl _
  | n + 1, d => by
    show (if d.th.done = true ∨ d.stuck = true then d else runA fs n (stepA fs d)).emits.length ≤ _
    by_cases h : d.th.done = true ∨ d.stuck = true
    · rw [if_pos h]; omega
    · rw [if_neg h]
      have h1 := runA_len fs n (stepA fs d)
      have h2 := stepA_len fs d
      omega
end Go.Proofs.YtoacnphgkgklcaaDoor
namespace Go.Proofs.YtoacnphgkgklcaaDoor
open Go.RowKit
theorem take_eq_succ {α : Type} (xs ys : List α) (k : Nat) (h : xs.take k = ys.take k) (h1 : k < xs.length) (h2 : k < ys.length) (h3 : xs[k] = ys[k]) : xs.take (k + 1) = ys.take (k + 1) := by
  rw [List.take_succ_eq_append_getElem h1, List.take_succ_eq_append_getElem h2, h, h3]
set_option maxHeartbeats 1000000 in
theorem numbers_any (A B : Option Addr) (n m c d : Nat) (xs ys : List Int) (w : World) (hn : xs.length = n) (hm : ys.length = m) (_hn : n ≤ maxLen) (_hm : m ≤ maxLen) (ha : Row w w.heap.size A (ints xs)) (hb : Row w w.heap.size B (ints ys)) :
    Calls Tryd.prog 24 #[.slice A n c, .slice B m d] w fun e w' => e = .returned (.bool (decide (xs = ys))) ∧ Below w.heap.size w w' := by
  unfold maxLen at _hn _hm
  by_cases hnm : n = m
  · subst hnm
    have HX := Lib.hid hn
    have HY := Lib.hid hm
    have HA := Lib.hid ha
    have HB := Lib.hid hb
    clear hn hm ha hb
    go_enter Tryd.func24, Tryd.ntmps24
    go_wp2_with fail
    go_loopw [5] (fun vi wr => ∃ k : Nat, k ≤ n ∧ vi = .int .i64 k ∧ xs.take k = ys.take k ∧ Below w.heap.size w wr) (fun vi _ => n - (intOf vi).toNat)
    case atStart => exact ⟨0, Nat.zero_le _, rfl, rfl, Below.refl _ _⟩
    case round =>
      obtain ⟨k, hk, rfl, ht, hbw⟩ := hrel
      have HT := Lib.hid ht
      clear ht
      by_cases hlt : k < n
      · have hkx : k < xs.length := by have := HX.out; omega
        have hky : k < ys.length := by have := HY.out; omega
        obtain ⟨b, off, rfl, hbl, hcx⟩ := HA.out.at_ (k := k) (by simpa [ints] using hkx)
        obtain ⟨b', off', rfl, hbl', hcy⟩ := HB.out.at_ (k := k) (by simpa [ints] using hky)
        have hx0 : ∀ w', Below w.heap.size w w' → w'.cell? ⟨b, off + k, none⟩ = some (.int .i64 xs[k]) := fun w' h => (h.cell (p := ⟨b, off + k, none⟩) hbl).trans (hcx k _ (ints_at_ xs k hkx))
        have hy0 : ∀ w', Below w.heap.size w w' → w'.cell? ⟨b', off' + k, none⟩ = some (.int .i64 ys[k]) := fun w' h => (h.cell (p := ⟨b', off' + k, none⟩) hbl').trans (hcy k _ (ints_at_ ys k hky))
        clear hcx hcy hbl hbl'
        by_cases he : xs[k] = ys[k]
        · have HE := Lib.hid he
          have he' : (xs[k] != ys[k]) = false := by simpa using he
          clear he
          generalize hX : xs[k] = x at *
          generalize hY : ys[k] = y at *
          have HXX := Lib.hid hX
          have HYY := Lib.hid hY
          clear hX hY
          go_wp2_with fail
          refine region_below w w.heap.size (by kernel_rfl) (by kernel_rfl) hbw ?_
          repeat (first | go_big_quiet_skip | (go_big_quiet_want; first | (go_big_quiet_op; first | go_big_quiet_on | ((first | with_reducible refine ⟨_, fun _ _ => rfl, ?_⟩); go_big_quiet_on)) | (simp (contextual := true) [go_sem, hx0, hy0]; with_reducible refine ⟨_, fun _ _ => rfl, ?_⟩; go_big_quiet_on)))
          refine wpQuiet_nil ?_
          intro w1 hw1
          go_wp2_with fail
          go_roundw
          case rel => exact ⟨k + 1, by omega, by go_num, take_eq_succ xs ys k HT.out hkx hky (by rw [HXX.out, HYY.out, HE.out]), hw1⟩
          case measure => simp [intOf]; omega
        · have he' : (xs[k] != ys[k]) = true := by simpa using he
          have hne : decide (xs = ys) = false := by
            simp only [decide_eq_false_iff_not]
            intro h; apply he; simp [h]
          have HE := Lib.hid hne
          clear he hne
          generalize xs[k] = x at *
          generalize ys[k] = y at *
          go_wp2_with fail
          refine region_below w w.heap.size (by kernel_rfl) (by kernel_rfl) hbw ?_
          repeat (first | go_big_quiet_skip | (go_big_quiet_want; first | (go_big_quiet_op; first | go_big_quiet_on | ((first | with_reducible refine ⟨_, fun _ _ => rfl, ?_⟩); go_big_quiet_on)) | (simp (contextual := true) [go_sem, hx0, hy0]; with_reducible refine ⟨_, fun _ _ => rfl, ?_⟩; go_big_quiet_on)))
          refine wpQuiet_nil ?_
          intro w1 hw1
          go_wp2_with fail
          go_ret
          exact ⟨by rw [HE.out]; rfl, hw1⟩
      · have he : xs = ys := by
          have h1 := HX.out
          have h2 := HY.out
          have h3 := HT.out
          rwa [List.take_of_length_le (by omega), List.take_of_length_le (by omega)] at h3
        have he' : decide (xs = ys) = true := by simpa using he
        have HE := Lib.hid he'
        clear he he'
        go_wp2_with fail
        go_ret
        exact ⟨by rw [HE.out]; rfl, hbw⟩
  · have hne : decide (xs = ys) = false := by
      simp only [decide_eq_false_iff_not]
      rintro rfl; omega
    have hnm' : ((n : Int) != m) = true := by simp; omega
    rw [hne]
    clear hne ha hb hn hm hnm
    go_enter Tryd.func24, Tryd.ntmps24
    go_wp2_with fail
    go_ret
    exact ⟨rfl, Below.refl _ _⟩
end Go.Proofs.YtoacnphgkgklcaaDoor
namespace Go.Proofs.YtoacnphgkgklcaaDoor
open Go.RowKit
set_option maxHeartbeats 2000000 in
set_option maxRecDepth 100000 in
theorem rrun_bad (A : Option Addr) (c : Nat) (fs : List Fn) (x : Int) (w : World) (hm : fs.length ≤ maxLen) (hf : FnsOk w w.heap.size A fs) (hbad : ¬ (runB fs = true ∧ 0 ≤ x ∧ x ≤ 65536)) :
    Calls Tryd.prog 25 #[.agg #[.slice A fs.length c], .int .i64 x] w (ResOut w wd0 1) := by
  have HF := Lib.hid hf
  have HM := Lib.hid hm
  have HBAD := Lib.hid (show (checkP fs).2.2 = 0 → 0 ≤ x → x ≤ 65536 → False from fun h1 h2 h3 => hbad ⟨by unfold runB; rw [h1]; rfl, h2, h3⟩)
  have hW : ∃ W : World, Hid (W = (w.alloc (.cells #[.slice A fs.length c] 24)).alloc (.cells #[.slice none 0 0, .int .i64 0, .int .i64 0, .int .i64 0, .int .i64 0, .int .i64 0, .int .i64 0, .int .i64 0, .int .i64 0, .int .i64 0, .int .i64 0, .int .i64 0, .slice none 0 0, .bool false, .bool false] 52)) := ⟨_, rfl⟩
  obtain ⟨W, HW⟩ := hW
  have HB0 := Lib.hid (show Below w.heap.size w W by rw [HW.out]; exact below2 w _ _)
  have HBR := Lib.hid (show Blk W (w.heap.size + 1) 52 #[.slice none 0 0, .int .i64 0, .int .i64 0, .int .i64 0, .int .i64 0, .int .i64 0, .int .i64 0, .int .i64 0, .int .i64 0, .int .i64 0, .int .i64 0, .int .i64 0, .slice none 0 0, .bool false, .bool false] by rw [HW.out]; exact heap_alloc2_new w _ _)
  clear hf hm hbad
  go_enter Tryd.func25, Tryd.ntmps25
  go_wp2_with fail
  try go_step3
  go_wp2_with fail
  rw [← HW.out]
  refine (rcheckP_any A c fs W HM.out (HF.out.step HB0.out)).mono ?_
  rintro e w1 ⟨rfl, hb1⟩
  have HB1 := Lib.hid (HB0.out.trans (hb1.mono HB0.out.size))
  have HBR1 := Lib.hid (HBR.out.below hb1 HBR.out.lt)
  unfold tri
  generalize checkP fs = r at *
  obtain ⟨r1, r2, r3⟩ := r
  clear hb1
  have HSZD := Lib.hid (show (Tryd.prog.info? 52).map (·.size) = some (resArr wd0 none 0 none 0).size from Tryd.infoRes2)
  have hfin : ∀ w2, w2 = w1.setRow (w.heap.size + 1) (resArr wd0 none 0 none 0) → Below w.heap.size w w2 := fun w2 h => by rw [h]; exact below_setRow HB1.out (by omega) HB1.out.size _
  have HFIN := Lib.hid hfin
  clear hfin
  have three : (r3 != 0) = true ∨ (r3 = 0 ∧ x < 0) ∨ (r3 = 0 ∧ 0 ≤ x ∧ 65536 < x) := by
    have := HBAD.out
    simp only at this
    by_cases h3 : r3 = 0
    · right
      by_cases h0 : x < 0
      · exact .inl ⟨h3, h0⟩
      · refine .inr ⟨h3, by omega, ?_⟩
        by_cases h5 : x ≤ 65536
        · exact (this h3 (by omega) h5).elim
        · omega
    · left; simpa using h3
  rcases three with h3 | ⟨rfl, h0⟩ | ⟨rfl, h0, h5⟩
  · go_wp2_with (refine wpList_store_row rfl 52 _ _ rfl (w.heap.size + 1) (resArr wd0 none 0 none 0) rfl rfl 52 _ HBR1.out HSZD.out rfl (resArr_one (d := wd0) none 0 none 0) ?_)
    refine bodyPost_ret (results_cell2 Tryd.results25 _ _ (w.heap.size + 1) 52 (resArr wd0 none 0 none 0) (0, 0) _ rfl (HBR1.out.setRow _) Tryd.underlying52 rfl HSZD.out) rfl ?_
    exact resOut_bad (HFIN.out _ rfl)
  · have e0 : decide (x < 0) = true := by simpa using h0
    clear h0
    go_wp2_with (refine wpList_store_row rfl 52 _ _ rfl (w.heap.size + 1) (resArr wd0 none 0 none 0) rfl rfl 52 _ HBR1.out HSZD.out rfl (resArr_one (d := wd0) none 0 none 0) ?_)
    refine bodyPost_ret (results_cell2 Tryd.results25 _ _ (w.heap.size + 1) 52 (resArr wd0 none 0 none 0) (0, 0) _ rfl (HBR1.out.setRow _) Tryd.underlying52 rfl HSZD.out) rfl ?_
    exact resOut_bad (HFIN.out _ rfl)
  · have e0 : decide (x < 0) = false := by simpa using h0
    have e5 : decide (65536 < x) = true := by simpa using h5
    clear h0 h5
    go_wp2_with (refine wpList_store_row rfl 52 _ _ rfl (w.heap.size + 1) (resArr wd0 none 0 none 0) rfl rfl 52 _ HBR1.out HSZD.out rfl (resArr_one (d := wd0) none 0 none 0) ?_)
    refine bodyPost_ret (results_cell2 Tryd.results25 _ _ (w.heap.size + 1) 52 (resArr wd0 none 0 none 0) (0, 0) _ rfl (HBR1.out.setRow _) Tryd.underlying52 rfl HSZD.out) rfl ?_
    exact resOut_bad (HFIN.out _ rfl)
theorem rrun_any (A : Option Addr) (c : Nat) (fs : List Fn) (x : Int) (w : World) (hm : fs.length ≤ maxLen) (hf : FnsOk w w.heap.size A fs) :
    Calls Tryd.prog 25 #[.agg #[.slice A fs.length c], .int .i64 x] w (ResOut w (runR fs x).1 (runR fs x).2) := by
  unfold runR
  by_cases h : runB fs = true ∧ 0 ≤ x ∧ x ≤ 65536
  · rw [if_pos h]
    obtain ⟨n, rfl⟩ := Int.eq_ofNat_of_zero_le h.2.1
    exact rrun_loop A c fs n w hm hf h.1 (by omega)
  · rw [if_neg h]
    exact rrun_bad A c fs x w hm hf h
end Go.Proofs.YtoacnphgkgklcaaDoor
namespace Go.Proofs.YtoacnphgkgklcaaDoor
open Go.RowKit
theorem sameT_refl12r (t : Th) : sameT t t = true := by simp [sameT]
theorem runR_len (fs : List Fn) (x : Int) : (runR fs x).1.emits.length ≤ 65536 := by
  unfold runR
  split
  · rename_i h
    have h1 := runA_len fs x.toNat wd0
    have z1 : wd0.emits.length = 0 := rfl
    show (runA fs x.toNat wd0).emits.length ≤ _
    omega
  · show wd0.emits.length ≤ _
    exact Nat.zero_le _
theorem put_res12 (w : World) (t : TypeId) (Z X : Array Value) : Blk ((w.alloc (.cells Z t)).setRow w.heap.size X) w.heap.size t X ∧ Below w.heap.size w ((w.alloc (.cells Z t)).setRow w.heap.size X) :=
  ⟨(Blk.new w _ _).setRow _, below_setRow ((Below.refl _ _).alloc (Nat.le_refl _) _) (Nat.le_refl _) (by simp) _⟩
/-- What is known of a result's cells. -/
structure ResY12 (d : Wd) (E : Option Addr) (ce : Nat) (B : Option Addr) (cb : Nat) (X : Array Value) : Prop where
  c0 : X[0]? = some (.slice E d.emits.length ce)
  c1 : X[1]? = some (.int .i64 d.steps)
  c13 : X[13]? = some (.bool d.th.done)
  c14 : X[14]? = some (.bool d.stuck)
  sub : ∀ j, j < (thArr d.th B cb).size → X[2 + j]? = (thArr d.th B cb)[j]?
  size : X.size = 15
  one : X.all (·.oneCell') = true
theorem resY12 (d : Wd) (E : Option Addr) (ce : Nat) (B : Option Addr) (cb : Nat) (h : d.th.regs.length = 8) : ResY12 d E ce B cb (resArr d E ce B cb) :=
  ⟨resArr_0 _ _ _ _ _, resArr_1 _ _ _ _ _, (resArr_th E ce B cb h 11 (by omega)).trans (thArr_11 B cb h), resArr_14 _ _ _ _ h, fun j hj => resArr_th E ce B cb h j (by rw [thArr_size B cb h] at hj; exact hj), resArr_size E ce B cb h, resArr_one E ce B cb⟩
set_option maxHeartbeats 4000000 in
set_option maxRecDepth 100000 in
theorem runs12 (A : Option Addr) (c : Nat) (fs : List Fn) (x : Int) (w : World) (hT : Tab w) (hm : fs.length ≤ maxLen) (hf : FnsOk w w.heap.size A fs) :
    Calls Tryd.prog 7 #[.agg #[.slice A fs.length c], .int .i64 x] w fun e w' => e = .returned (.bool true) ∧ Below w.heap.size w w' := by
  have HTA := Lib.hid hT
  have HF := Lib.hid hf
  have HM := Lib.hid hm
  have hW : ∃ W : World, Hid (W = w.alloc (.cells #[.slice A fs.length c] 24)) := ⟨_, rfl⟩
  obtain ⟨W, HW⟩ := hW
  have HB0 := Lib.hid (show Below w.heap.size w W by rw [HW.out]; exact (Below.refl _ _).alloc (Nat.le_refl _) _)
  have HBP := Lib.hid (show Blk W w.heap.size 24 #[.slice A fs.length c] by rw [HW.out]; exact Blk.new w _ _)
  clear hT hf hm
  go_enter Tryd.func7, Tryd.ntmps7
  go_wp2_with fail
  rw [← HW.out]
  refine (light_any A c fs W HM.out (HF.out.step HB0.out)).mono ?_
  rintro e w1 ⟨rfl, hb1⟩
  have HB1 := Lib.hid (HB0.out.trans (hb1.mono HB0.out.size))
  have HBP1 := Lib.hid (HBP.out.below hb1 HBP.out.lt)
  have kp := HBP1.out.cell 0
  simp only [List.getElem?_toArray, List.getElem?_cons_zero] at kp
  clear hb1
  have three : lightP fs = false ∨ (lightP fs = true ∧ decide (2000 < x) = true ∧ decide (x ≤ 65536) = true) ∨ (lightP fs = true ∧ decide (2000 < x) = false) ∨ (lightP fs = true ∧ decide (2000 < x) = true ∧ decide (x ≤ 65536) = false) := by
    cases lightP fs <;> cases decide (2000 < x) <;> cases decide (x ≤ 65536) <;> simp
  rcases three with h1 | ⟨h1, h2, h3⟩ | hmain
  case inr.inr =>
    rcases hmain with ⟨h1, h2⟩ | ⟨h1, h2, h3⟩
    all_goals
      rw [h1]
      go_wp2_with fail
      have HLEN := Lib.hid (runR_len fs x)
      refine (run_any A c fs x w1 (HTA.out.step HB1.out) HM.out (HF.out.step HB1.out)).mono ?_
      rintro e w2 ⟨E, ce, B, cb, rfl, hr, h1, h2, hk, hb2⟩
      have HB2 := Lib.hid (HB1.out.trans (hb2.mono HB1.out.size))
      have HBP2 := Lib.hid (HBP1.out.below hb2 HBP1.out.lt)
      generalize hra : runR fs x = ra at *
      obtain ⟨a, f⟩ := ra
      simp only at hr h1 h2 hk ⊢
      simp only at HLEN
      have HRAX := Lib.hid hra
      have HXA := Lib.hid (resY12 a E ce B cb hk.regs)
      have HRA := Lib.hid hr
      have HKA := Lib.hid hk
      have HSZA := Lib.hid (show (Tryd.prog.info? 46).map (·.size) = some (resArr a E ce B cb).size by rw [HXA.out.size]; exact Tryd.infoRes)
      clear hra hr hk hb2 h1 h2 kp
      generalize resArr a E ce B cb = X at *
      have hW3 : ∃ W3 : World, Hid (W3 = (w2.alloc (.cells #[.slice none 0 0, .int .i64 0, .int .i64 0, .int .i64 0, .int .i64 0, .int .i64 0, .int .i64 0, .int .i64 0, .int .i64 0, .int .i64 0, .int .i64 0, .int .i64 0, .slice none 0 0, .bool false, .bool false] 46)).setRow w2.heap.size X) := ⟨_, rfl⟩
      obtain ⟨W3, HW3⟩ := hW3
      have HP3 := Lib.hid (put_res12 w2 46 #[.slice none 0 0, .int .i64 0, .int .i64 0, .int .i64 0, .int .i64 0, .int .i64 0, .int .i64 0, .int .i64 0, .int .i64 0, .int .i64 0, .int .i64 0, .int .i64 0, .slice none 0 0, .bool false, .bool false] X)
      rw [← HW3.out] at HP3
      have HB3 := Lib.hid (HB2.out.trans (HP3.out.2.mono HB2.out.size))
      have HBP3 := Lib.hid (HBP2.out.below HP3.out.2 HBP2.out.lt)
      have HBA3 := Lib.hid HP3.out.1
      have HRA3 := Lib.hid ((HRA.out.below HP3.out.2).more HP3.out.2.size)
      have HKA3 := Lib.hid (HKA.out.step HP3.out.2)
      have kp := HBP3.out.cell 0
      simp only [List.getElem?_toArray, List.getElem?_cons_zero] at kp
      have hga : ∃ gA : Nat, Hid (gA = w2.heap.size) := ⟨_, rfl⟩
      obtain ⟨gA, HGA⟩ := hga
      rw [← HGA.out] at HBA3
      go_wp2_with (refine wpList_store_row rfl 46 _ _ rfl w2.heap.size X rfl rfl 46 _ (Blk.new w2 _ _) HSZA.out (by rw [HXA.out.size]; rfl) HXA.out.one ?_; rw [← HW3.out])
      rw [← HGA.out]
      refine (rrun_any A c fs x W3 HM.out (HF.out.step HB3.out)).mono ?_
      rintro e w4 ⟨E', ce', B', cb', rfl, hr, h1, h2, hk, hb4⟩
      have HB4 := Lib.hid (HB3.out.trans (hb4.mono HB3.out.size))
      have HBP4 := Lib.hid (HBP3.out.below hb4 HBP3.out.lt)
      have HBA4 := Lib.hid (HBA3.out.below hb4 HBA3.out.lt)
      have HRA4 := Lib.hid ((HRA3.out.below hb4).more hb4.size)
      have HKA4 := Lib.hid (HKA3.out.step hb4)
      rw [HRAX.out] at hr h1 hk ⊢
      simp only at hr h1 h2 hk ⊢
      have HXB := Lib.hid (resY12 a E' ce' B' cb' hk.regs)
      have HRB := Lib.hid hr
      have HKB := Lib.hid hk
      have HSZB := Lib.hid (show (Tryd.prog.info? 52).map (·.size) = some (resArr a E' ce' B' cb').size by rw [HXB.out.size]; exact Tryd.infoRes2)
      clear hr hk hb4 h1 h2 kp
      generalize resArr a E' ce' B' cb' = Y at *
      have hW5 : ∃ W5 : World, Hid (W5 = (w4.alloc (.cells #[.slice none 0 0, .int .i64 0, .int .i64 0, .int .i64 0, .int .i64 0, .int .i64 0, .int .i64 0, .int .i64 0, .int .i64 0, .int .i64 0, .int .i64 0, .int .i64 0, .slice none 0 0, .bool false, .bool false] 52)).setRow w4.heap.size Y) := ⟨_, rfl⟩
      obtain ⟨W5, HW5⟩ := hW5
      have HP5 := Lib.hid (put_res12 w4 52 #[.slice none 0 0, .int .i64 0, .int .i64 0, .int .i64 0, .int .i64 0, .int .i64 0, .int .i64 0, .int .i64 0, .int .i64 0, .int .i64 0, .int .i64 0, .int .i64 0, .slice none 0 0, .bool false, .bool false] Y)
      rw [← HW5.out] at HP5
      have HB5 := Lib.hid (HB4.out.trans (HP5.out.2.mono HB4.out.size))
      have HBP5 := Lib.hid (HBP4.out.below HP5.out.2 HBP4.out.lt)
      have HBA5 := Lib.hid (HBA4.out.below HP5.out.2 HBA4.out.lt)
      have HRA5 := Lib.hid ((HRA4.out.below HP5.out.2).more HP5.out.2.size)
      have HKA5 := Lib.hid (HKA4.out.step HP5.out.2)
      have HRB5 := Lib.hid ((HRB.out.below HP5.out.2).more HP5.out.2.size)
      have HKB5 := Lib.hid (HKB.out.step HP5.out.2)
      have HBB5 := Lib.hid HP5.out.1
      have hgb : ∃ gB : Nat, Hid (gB = w4.heap.size) := ⟨_, rfl⟩
      obtain ⟨gB, HGB⟩ := hgb
      rw [← HGB.out] at HBB5
      have a0 := (HBA5.out.cell 0).trans HXA.out.c0
      have a1 := (HBA5.out.cell 1).trans HXA.out.c1
      have a14 := (HBA5.out.cell 14).trans HXA.out.c14
      have b0 := (HBB5.out.cell 0).trans HXB.out.c0
      have b1 := (HBB5.out.cell 1).trans HXB.out.c1
      have b14 := (HBB5.out.cell 14).trans HXB.out.c14
      go_wp2_with (refine wpList_store_row rfl 52 _ _ rfl w4.heap.size Y rfl rfl 52 _ (Blk.new w4 _ _) HSZB.out (by rw [HXB.out.size]; rfl) HXB.out.one ?_; rw [← HW5.out, ← HGB.out])
      clear b1 b14 a1 a14
      have F0 : ∀ w', Below W5.heap.size W5 w' → w'.cell? ⟨gA, 0, none⟩ = some (.slice E a.emits.length ce) := fun w' h => (h.cell (p := ⟨gA, 0, none⟩) HBA5.out.lt).trans a0
      have F1 : ∀ w', Below W5.heap.size W5 w' → w'.cell? ⟨gB, 0, none⟩ = some (.slice E' a.emits.length ce') := fun w' h => (h.cell (p := ⟨gB, 0, none⟩) HBB5.out.lt).trans b0
      have F2 : ∀ w', Below W5.heap.size W5 w' → w'.cell? ⟨gA, 1, none⟩ = some (.int .i64 a.steps) := fun w' h => (h.cell (p := ⟨gA, 1, none⟩) HBA5.out.lt).trans ((HBA5.out.cell 1).trans HXA.out.c1)
      have F3 : ∀ w', Below W5.heap.size W5 w' → w'.cell? ⟨gB, 1, none⟩ = some (.int .i64 a.steps) := fun w' h => (h.cell (p := ⟨gB, 1, none⟩) HBB5.out.lt).trans ((HBB5.out.cell 1).trans HXB.out.c1)
      have F4 : ∀ w', Below W5.heap.size W5 w' → w'.cell? ⟨gA, 14, none⟩ = some (.bool a.stuck) := fun w' h => (h.cell (p := ⟨gA, 14, none⟩) HBA5.out.lt).trans ((HBA5.out.cell 14).trans HXA.out.c14)
      have F5 : ∀ w', Below W5.heap.size W5 w' → w'.cell? ⟨gB, 14, none⟩ = some (.bool a.stuck) := fun w' h => (h.cell (p := ⟨gB, 14, none⟩) HBB5.out.lt).trans ((HBB5.out.cell 14).trans HXB.out.c14)
      have F6 : ∀ w', Below W5.heap.size W5 w' → w'.cell? ⟨w.heap.size, 0, none⟩ = some (.slice A fs.length c) := fun w' h => (h.cell (p := ⟨w.heap.size, 0, none⟩) HBP5.out.lt).trans (HBP5.out.cell 0)
      have HSZT := Lib.hid (show (Tryd.prog.info? 28).map (·.size) = some (thArr a.th B cb).size by rw [thArr_size B cb HKA5.out.regs]; exact Tryd.infoTh)
      have HSZU := Lib.hid (show (Tryd.prog.info? 28).map (·.size) = some (thArr a.th B' cb').size by rw [thArr_size B' cb' HKB5.out.regs]; exact Tryd.infoTh)
      have LA : ∀ w', Below W5.heap.size W5 w' → (loadVar 28 ⟨gA, 2, none⟩).run Tryd.prog w' = .ok (.agg (thArr a.th B cb)) w' := fun w' h => run_loadVar_cells w' gA 2 _ _ _ (fun j v hv => (h.cell (p := ⟨gA, 2 + j, none⟩) HBA5.out.lt).trans ((HBA5.out.cell _).trans ((HXA.out.sub j (Array.getElem?_eq_some_iff.1 hv).1).trans hv))) Tryd.underlying28 rfl HSZT.out
      have LB : ∀ w', Below W5.heap.size W5 w' → (loadVar 28 ⟨gB, 2, none⟩).run Tryd.prog w' = .ok (.agg (thArr a.th B' cb')) w' := fun w' h => run_loadVar_cells w' gB 2 _ _ _ (fun j v hv => (h.cell (p := ⟨gB, 2 + j, none⟩) HBB5.out.lt).trans ((HBB5.out.cell _).trans ((HXB.out.sub j (Array.getElem?_eq_some_iff.1 hv).1).trans hv))) Tryd.underlying28 rfl HSZU.out
      have HL := Lib.hid (show a.emits.length ≤ maxLen by unfold maxLen; have := HLEN.out; omega)
      refine region_sch (fun w' => Below W5.heap.size W5 w') [([0, 1, 2, 3, 4, 5, 6, 7], 8), ([9, 10, 11, 12, 13, 14, 15, 16, 17, 18, 19, 20, 21], 22), ([23, 24, 25, 26, 27, 28, 29, 30, 31, 32, 33, 35, 36], 34), ([], 37), ([38, 39], 40)] [41, 42] (by kernel_rfl) (by kernel_rfl) (by kernel_rfl) (fun _ _ d _ _ h => by cases d <;> exact h) (Below.refl _ _).drew ?_
      (try simp only [Act.put, List.setIfInBounds_toArray, List.set_cons_zero, List.set_cons_succ]); refine sch_seg ?_; simp only [pickOps, List.getElem?_toArray, List.getElem?_cons_zero, List.getElem?_cons_succ]; (repeat (first | go_big_quiet_skip | (go_big_quiet_want; first | (go_big_quiet_op; first | go_big_quiet_on | ((first | with_reducible refine ⟨_, fun _ _ => rfl, ?_⟩); go_big_quiet_on)) | (simp (contextual := true) [go_sem, F0, F1]; with_reducible refine ⟨_, fun _ _ => rfl, ?_⟩; go_big_quiet_on)))); refine wpQuiet_nil ?_
      go_wp2_with fail
      refine (numbers_any E E' a.emits.length a.emits.length ce ce' a.emits a.emits W5.drew rfl rfl HL.out HL.out HRA5.out HRB5.out).mono ?_
      rintro e w6 ⟨rfl, hb6⟩
      rw [show decide (a.emits = a.emits) = true from decide_eq_true rfl]
      have HB6 := Lib.hid ((Below.refl W5.heap.size W5).drew.trans hb6)
      clear hb6
      go_wp2_with fail
      refine ⟨fun w' => Below W5.heap.size W5 w', HB6.out, fun _ h => h, ?_⟩
      (try simp only [Act.put, List.setIfInBounds_toArray, List.set_cons_zero, List.set_cons_succ]); refine sch_seg ?_; simp only [pickOps, List.getElem?_toArray, List.getElem?_cons_zero, List.getElem?_cons_succ]; (repeat (first | (refine quiet_load_at (by rfl) 28 _ rfl ⟨gA, 2, none⟩ rfl (thArr a.th B cb) LA ?_; simp only [Act.put, List.setIfInBounds_toArray, List.set_cons_zero, List.set_cons_succ]) | (refine quiet_load_at (by rfl) 28 _ rfl ⟨gB, 2, none⟩ rfl (thArr a.th B' cb') LB ?_; simp only [Act.put, List.setIfInBounds_toArray, List.set_cons_zero, List.set_cons_succ]) | go_big_quiet_skip | (go_big_quiet_want; first | (go_big_quiet_op; first | go_big_quiet_on | ((first | with_reducible refine ⟨_, fun _ _ => rfl, ?_⟩); go_big_quiet_on)) | (simp (contextual := true) [go_sem, F2, F3]; with_reducible refine ⟨_, fun _ _ => rfl, ?_⟩; go_big_quiet_on)))); refine wpQuiet_nil ?_
      go_wp2_with fail
      refine (rSame_any a.th a.th B B' cb cb' w6 (HKA5.out.step HB6.out) (HKB5.out.step HB6.out)).mono ?_
      rintro e w7 ⟨rfl, hb7⟩
      rw [sameT_refl12r]
      have HB7 := Lib.hid (HB6.out.trans (hb7.mono HB6.out.size))
      clear hb7
      go_wp2_with fail
      refine ⟨fun w' => Below W5.heap.size W5 w', HB7.out, fun _ h => h, ?_⟩
      (try simp only [Act.put, List.setIfInBounds_toArray, List.set_cons_zero, List.set_cons_succ]); refine sch_seg ?_; simp only [pickOps, List.getElem?_toArray, List.getElem?_cons_zero, List.getElem?_cons_succ]; (repeat (first | go_big_quiet_skip | (go_big_quiet_want; first | (go_big_quiet_op; first | go_big_quiet_on | ((first | with_reducible refine ⟨_, fun _ _ => rfl, ?_⟩); go_big_quiet_on)) | (simp (contextual := true) [go_sem, F1, F4, F5, F6]; with_reducible refine ⟨_, fun _ _ => rfl, ?_⟩; go_big_quiet_on)))); refine wpQuiet_nil ?_
      go_wp2_with fail
      have HBZ := Lib.hid (HB5.out.trans (HB7.out.mono HB5.out.size))
      refine (emits_any A c fs x w7 (HTA.out.step HBZ.out) HM.out (HF.out.step HBZ.out)).mono ?_
      rintro e w8 ⟨E3, ce3, rfl, hr3, h3, h4, hb8⟩
      rw [HRAX.out] at hr3 ⊢
      simp only at hr3 ⊢
      have HR3 := Lib.hid hr3
      have HB8 := Lib.hid (HB7.out.trans (hb8.mono HB7.out.size))
      clear hr3 h3 h4 hb8
      go_wp2_with fail
      refine ⟨fun w' => Below W5.heap.size W5 w', HB8.out, fun _ h => h, ?_⟩
      (try simp only [Act.put, List.setIfInBounds_toArray, List.set_cons_zero, List.set_cons_succ]); refine sch_seg ?_; simp only [pickOps, List.getElem?_toArray, List.getElem?_cons_zero, List.getElem?_cons_succ]; (repeat (first | go_big_quiet_skip | (go_big_quiet_want; first | (go_big_quiet_op; first | go_big_quiet_on | ((first | with_reducible refine ⟨_, fun _ _ => rfl, ?_⟩); go_big_quiet_on)) | (simp (contextual := true) [go_sem, F0]; with_reducible refine ⟨_, fun _ _ => rfl, ?_⟩; go_big_quiet_on)))); refine wpQuiet_nil ?_
      go_wp2_with fail
      refine (numbers_any E3 E' a.emits.length a.emits.length ce3 ce' a.emits a.emits w8 rfl rfl HL.out HL.out HR3.out ((HRB5.out.below HB8.out).more HB8.out.size)).mono ?_
      rintro e w9 ⟨rfl, hb9⟩
      rw [show decide (a.emits = a.emits) = true from decide_eq_true rfl]
      have HB9 := Lib.hid (HB8.out.trans (hb9.mono HB8.out.size))
      clear hb9
      go_wp2_with fail
      refine ⟨fun w' => Below W5.heap.size W5 w', HB9.out, fun _ h => h, ?_⟩
      (try simp only [Act.put, List.setIfInBounds_toArray, List.set_cons_zero, List.set_cons_succ]); refine sch_seg ?_; simp only [pickOps, List.getElem?_toArray, List.getElem?_cons_zero, List.getElem?_cons_succ]; (repeat (first | go_big_quiet_skip | (go_big_quiet_want; first | (go_big_quiet_op; first | go_big_quiet_on | ((first | with_reducible refine ⟨_, fun _ _ => rfl, ?_⟩); go_big_quiet_on)) | (simp (contextual := true) [go_sem, F0]; with_reducible refine ⟨_, fun _ _ => rfl, ?_⟩; go_big_quiet_on)))); refine wpQuiet_nil ?_
      go_wp2_with fail
      refine (alive12 w9 (HTA.out.step (HB5.out.trans (HB9.out.mono HB5.out.size)))).mono ?_
      rintro e w10 ⟨rfl, hb10⟩
      have HB10 := Lib.hid (HB9.out.trans (hb10.mono HB9.out.size))
      clear hb10
      go_wp2_with fail
      refine ⟨fun w' => Below W5.heap.size W5 w', HB10.out, fun _ h => h, ?_⟩
      (try simp only [Act.put, List.setIfInBounds_toArray, List.set_cons_zero, List.set_cons_succ]); refine sch_end ?_; simp only [pickOps, List.getElem?_toArray, List.getElem?_cons_zero, List.getElem?_cons_succ]; (repeat (first | go_big_quiet_skip | (go_big_quiet_want; first | (go_big_quiet_op; first | go_big_quiet_on | ((first | with_reducible refine ⟨_, fun _ _ => rfl, ?_⟩); go_big_quiet_on)) | (simp (contextual := true) [go_sem, F0]; with_reducible refine ⟨_, fun _ _ => rfl, ?_⟩; go_big_quiet_on)))); refine wpQuiet_nil ?_
      go_wp2_with fail
      go_ret
      exact ⟨rfl, HB5.out.trans (HB10.out.mono HB5.out.size)⟩
  all_goals
    go_wp2_with fail
    refine (alive12 w1 (HTA.out.step HB1.out)).mono ?_
    rintro e w2 ⟨rfl, hb⟩
    have HB2 := Lib.hid (HB1.out.trans (hb.mono HB1.out.size))
    clear hb
    go_wp2_with fail
    go_ret
    exact ⟨rfl, HB2.out⟩
end Go.Proofs.YtoacnphgkgklcaaDoor
namespace Go.Proofs.YtoacnphgkgklcaaDoor
open Go.ChangeShapes Go.WideShapes Go.ChangeAt Go.RowKit Go.Joins Go.Deep
namespace lawAloneRuns
set_option maxRecDepth 100000 in
theorem contract (H : Type) (enc : TypeId × Value → H) (W : World) (base : Nat) (args : Array Value) (ds gs : List (DataW H)) (before : List MemPlace)
    (hval : ∀ (j : Nat) t v, Tryd.f7.params[j]? = some t → args[j]? = some v → Value.okWide Tryd.prog W .any base t v)
    (hW : DataW.Whole enc Tryd.prog Tryd.f7.params.toList Rows.aloneRunsSpec.vars false W args.toList ds gs before) (hL : laidMetH Tryd.prog Rows.aloneRunsRow.laid W) :
    Calls Tryd.prog 7 args W fun e W' => ∃ v, e = .returned v ∧ Rows.aloneRunsSpec.post enc Tryd.prog Tryd.f7 false true false false W args v W' := by
  have hTab : Tab W := tab_of_laid hL
  clear hL
  have hW' := hW
  obtain ⟨p, q, hA0, hV, rfl, _, _⟩ := hW
  have hA : DataW.TrodAll enc Tryd.prog W 0 (fun _ => true) true Tryd.f7.params.toList args.toList ds p := hA0
  rw [Tryd.params7] at hA hval
  have hlt : ∀ x ∈ p, x.block < W.heap.size := fun x hx => hW'.lt x (by simp [hx])
  obtain ⟨v0, v1, d0, d1, p0, p1, rfl, rfl, rfl, h0, h1⟩ := trodAll_two hA
  obtain ⟨A, c, fs, rfl, hm, hfs⟩ := open_prog (hval 0 _ v0 rfl rfl) h0 (fun q hq => hlt q (by simp [hq]))
  obtain ⟨y, rfl, rfl, rfl, wy⟩ := open_int Tryd.underlying3 (hval 1 3 v1 rfl rfl) h1
  obtain ⟨rfl, rfl⟩ := trodVars_none hV
  refine (runs12 A c fs y W hTab hm hfs).mono fun e W' ⟨he, hb⟩ => ?_
  subst he
  exact ⟨_, rfl, law_post Tryd.laidOut rfl Tryd.underlying4 (by kernel_rfl) (by kernel_rfl) ⟨rfl, rfl, rfl⟩ hW' hb⟩
theorem laid_met (os : Os) : laidMet Tryd.prog Rows.aloneRunsRow.laid ((laidWorld os).forCall (fun _ _ => 0) ⟨#[], #[.agg #[.slice none 0 0], .int .i64 0], []⟩).memory :=
  laidMet_of_run' 8 (by kernel_rfl) (by kernel_rfl)
theorem reads (os : Os) {H : Type} (enc : TypeId × Value → H) : ∃ places, DataW.whole enc Tryd.prog ((laidWorld os).forCall (fun _ _ => 0) ⟨#[], #[.agg #[.slice none 0 0], .int .i64 0], []⟩).memory Tryd.f7.params.toList Rows.aloneRunsSpec.vars false (#[.agg #[.slice none 0 0], .int .i64 0] : Array Value).toList 8 = some ([.agg [.nil], .lit (.int .i64 0)], [], places) :=
  ⟨[], by kernel_rfl⟩
set_option maxRecDepth 100000 in
theorem lifted (os : Os) (started : os.Started) (H : Type) (enc : TypeId × Value → H) (F : Stop.Interp) :
    ReturnsInHanded {} Tryd.checked os 7 .any ((OpenSpec.ofChange Rows.aloneRunsSpec).preRow enc Tryd.prog Tryd.f7 Rows.aloneRunsRow.domain false Rows.aloneRunsRow.laid) (((OpenSpec.ofChange Rows.aloneRunsSpec).at F).post enc Tryd.prog Tryd.f7 false true false false) := by
  obtain ⟨places, hx⟩ := reads os enc
  refine returnsInHanded_of_row (C := Tryd.checked) (s := OpenSpec.ofChange Rows.aloneRunsSpec) Tryd.own started (by kernel_rfl) Tryd.func7
    (witness_row_at (enc := enc) (C := Tryd.checked) false (laidWorld os) #[.agg #[.slice none 0 0], .int .i64 0] rfl (by kernel_rfl) (by kernel_rfl) (by kernel_rfl)
      (OpenSpec.preRow_of_cond 8 hx (by kernel_rfl) (fun k hk => by cases hk) (by kernel_rfl) (laid_met os))) ?_
  intro W base args ds gs before hval hW _ _ _ hL _ _
  exact contract H enc W base args ds gs before hval hW hL
theorem said : Rows.AloneRunsSaid :=
  OpenClaim.holds_of_cond 7 Tryd.f7 rfl rfl rfl rfl rfl rfl rfl ⟨rfl, rfl, rfl, rfl, rfl⟩ rfl rfl rfl rfl rfl (by kernel_rfl) Tryd.func7 (by kernel_rfl)
    (of_decide_eq_true (by kernel_rfl)) (by unfold Func.isWrapper; first | (rw [if_pos (by decide +kernel)]; kernel_rfl) | (rw [if_neg (by decide +kernel)]; exact ⟨rfl, rfl⟩))
    (fun os started H enc _ F => by rw [OpenClaim.pre_eq_preRow]; exact lifted os started H enc F)
theorem plain (f : FuncId) (fn : Func) (hf : Tryd.pinned.checked.prog.funcNamed "escapement/escapementlaw12.AloneRuns" = some f) (hfn : Tryd.pinned.checked.prog.funcs[f]? = some fn) :
    false = Tryd.pinned.checked.prog.looks [] ∧ ∀ (j : Nat) t, fn.params[j]? = some t → Tryd.pinned.checked.prog.wantsStandIn t = false := by
  obtain rfl : f = 7 := Option.some.inj ((show Tryd.prog.funcNamed "escapement/escapementlaw12.AloneRuns" = some 7 by kernel_rfl).symm.trans hf) |>.symm
  obtain rfl : fn = Tryd.f7 := (Option.some.inj (Tryd.func7.symm.trans hfn)).symm
  refine ⟨by kernel_rfl, fun j t ht => ?_⟩
  exact no_stand (by kernel_rfl) (Array.mem_of_getElem? ht)
theorem card : Rows.AloneRunsCardSaid :=
  Claim7.holds_tied_plain_at .later [] _ _ _ _ said (fun _ h => by cases h) (by kernel_rfl) (fun _ h => by cases h) aloneRuns_row_tie rfl ⟨rfl, rfl⟩ (by kernel_rfl) rfl plain (by kernel_rfl)
end lawAloneRuns
#print axioms lawAloneRuns.card

end Go.Proofs.YtoacnphgkgklcaaDoor

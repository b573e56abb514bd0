/-
  The law SuspLogs as a contract: it returns true, whatever is handed in.
-/
import Derived.Test.YtndidpeklbllpaaLog26
import Derived.Test.YtndidpeklbllpaaOpen
import Derived.Test.YtndidpeklbllpaaSame
import Derived.Deep.OwnRows
namespace Go.Proofs.Ytndidpeklbllpaa
open Go.RowKit Go.Maps
def actVals (a : Int × Int) : List Value := [.int .i64 a.1, .int .i64 a.2]
theorem actVals_len (a : Int × Int) : (actVals a).length = 2 := rfl
/-- The truths of p below m, as cells. -/
def truthsOf (p : Int → Bool) (m : Nat) : Array Value := ((List.range m).map fun i => Value.bool (p (i : Nat))).toArray
theorem truthsOf_at (p : Int → Bool) (m k : Nat) (h : k < m) : (truthsOf p m)[k]? = some (.bool (p k)) := by
  unfold truthsOf
  simp [h]
theorem truthsOf_set (p q : Int → Bool) (m k : Nat) (h : ∀ j : Nat, j ≠ k → q j = p j) : (truthsOf p m).setIfInBounds k (.bool (q k)) = truthsOf q m := by
  apply Array.ext_getElem?
  intro j
  unfold truthsOf
  rw [Array.getElem?_setIfInBounds]
  by_cases hj : k = j
  · subst hj
    by_cases hk : k < m <;> simp [hk]
  · rw [if_neg hj]
    simp only [List.getElem?_toArray, List.getElem?_map]
    by_cases hk : j < m
    · simp only [List.getElem?_range hk, Option.map_some]
      rw [h j (fun e => hj e.symm)]
    · simp [hk]
theorem truthsOf_none (m : Nat) : truthsOf (fun _ => false) m = madeCells #[Value.bool false] m := by
  apply Array.ext
  · rw [size_madeCells]; simp [truthsOf]
  · intro i h1 h2
    rw [size_madeCells] at h2
    simp [madeCells, Nat.mod_one, truthsOf]
/-- Who is suspended, below j, one behind the other. -/
def wantL (p : Int → Bool) (j : Nat) : List Int := ((List.range j).map fun i => ((i : Nat) : Int)).filter p
theorem wantL_succ (p : Int → Bool) (j : Nat) : wantL p (j + 1) = wantL p j ++ if p j then [(j : Int)] else [] := by
  unfold wantL
  rw [List.range_succ, List.map_append, List.filter_append]
  congr 1
  by_cases h : p (j : Nat) = true
  · simp [h]
  · simp [h]
theorem wantL_len (p : Int → Bool) (j : Nat) : (wantL p j).length ≤ j := by
  unfold wantL
  refine Nat.le_trans (List.length_filter_le _ _) ?_
  simp
theorem wantL_mem (p : Int → Bool) (j : Nat) (h : ∀ x, p x = true → 0 ≤ x ∧ x < j) (x : Int) : x ∈ wantL p j ↔ p x = true := by
  unfold wantL
  rw [List.mem_filter, List.mem_map]
  constructor
  · exact fun h => h.2
  · intro hx
    obtain ⟨h1, h2⟩ := h x hx
    exact ⟨⟨x.toNat, List.mem_range.2 (by omega), by omega⟩, hx⟩
theorem wantL_rise (p : Int → Bool) : ∀ j, (wantL p j).Pairwise (· < ·)
  | 0 => by simp [wantL]
  | j + 1 => by
    rw [wantL_succ, List.pairwise_append]
    refine ⟨wantL_rise p j, by split <;> simp, fun a ha b hb => ?_⟩
    have h1 : a < j := by
      unfold wantL at ha
      obtain ⟨i, hi, rfl⟩ := List.mem_map.1 (List.mem_filter.1 ha).1
      have := List.mem_range.1 hi
      omega
    split at hb
    · simp at hb; omega
    · cases hb
theorem logs_bad (A : Option Addr) (n c : Nat) (acts : List (Int × Int)) (gs t : Int) (w : World) (_hn : acts.length = n) (h100 : n ≤ 100) (hgs : gs < 0 ∨ 64 < gs) :
    Calls Try.prog 3 #[.int .i64 gs, .slice A n c, .int .i64 t] w fun e w' => e = .returned (.bool true) ∧ Below w.heap.size w w' := by
  have HG := Lib.hid hgs
  clear _hn
  rcases hgs with h | h
  · go_enter Try.func3, Try.ntmps3
    go_wp2_with (first | (go_at_call 5; refine (lnew_bad _ HG.out _).mono ?_; rintro e w1 ⟨rfl, rfl⟩) | (go_at_call 6; refine (has_nil _ _).mono ?_; rintro e w1 ⟨rfl, rfl⟩) | (go_at_call 7; refine (suspend_nil _ _).mono ?_; rintro e w1 ⟨rfl, rfl⟩) | (go_at_call 8; refine (lresume_nil _ _).mono ?_; rintro e w1 ⟨rfl, rfl⟩) | (go_at_call 9; refine (all_nil _).mono ?_; rintro e w1 ⟨rfl, rfl⟩) | (go_at_call 4; refine (alive26 _).mono ?_; rintro e w1 ⟨rfl, rfl⟩))
    go_ret
    exact ⟨rfl, Below.refl _ _⟩
  · have h0 : decide (gs < 0) = false := by simp; omega
    go_enter Try.func3, Try.ntmps3
    go_wp2_with (first | (go_at_call 5; refine (lnew_bad _ HG.out _).mono ?_; rintro e w1 ⟨rfl, rfl⟩) | (go_at_call 6; refine (has_nil _ _).mono ?_; rintro e w1 ⟨rfl, rfl⟩) | (go_at_call 7; refine (suspend_nil _ _).mono ?_; rintro e w1 ⟨rfl, rfl⟩) | (go_at_call 8; refine (lresume_nil _ _).mono ?_; rintro e w1 ⟨rfl, rfl⟩) | (go_at_call 9; refine (all_nil _).mono ?_; rintro e w1 ⟨rfl, rfl⟩) | (go_at_call 4; refine (alive26 _).mono ?_; rintro e w1 ⟨rfl, rfl⟩))
    go_ret
    exact ⟨rfl, Below.refl _ _⟩
theorem Try.infoBool : (Try.prog.info? 4).map (fun i => (i.zero, i.size, i.bytes)) = some (some (.bool false), 1, 1) := by kernel_rfl
theorem Try.info3 : (Try.prog.info? 3).map (fun i => (i.zero, i.size, i.bytes)) = some (some (.int .i64 0), 1, 8) := by kernel_rfl
/-- What holds at the head of the first loop. -/
structure LogInv (w wr : World) (l gm gi gs n : Nat) (p : Int → Bool) : Prop where
  below : Below w.heap.size w wr
  log : ∃ c, c ≤ n ∧ LogIs wr l gm gs n p c
  is_ : Blk wr gi 4 (truthsOf p (gs + 1))
  keys : ∀ x, p x = true → 1 ≤ x ∧ x ≤ gs
theorem Stepped.inv {w wr w1 : World} {l gm gi gs n : Nat} {p q : Int → Bool} (h : LogInv w wr l gm gi gs n p) (hs : Stepped wr w1 l gm gs (n + 1) q) (hm : w.heap.size ≤ gm) (hi : gi ≠ gm) :
    Below w.heap.size w w1 ∧ (∃ c, c ≤ n + 1 ∧ LogIs w1 l gm gs (n + 1) q c) ∧ Blk w1 gi 4 (truthsOf p (gs + 1)) :=
  ⟨h.below.grown hs.2 h.below.size (fun k hk => by injection hk with hk; omega), hs.1, h.is_.grown hs.2 (fun e => by injection e with e; exact hi e)⟩
theorem inv_store {w w1 : World} {l gm gi gs n : Nat} {p q : Int → Bool} {k : Nat} (h1 : Below w.heap.size w w1) (h2 : ∃ c, c ≤ n ∧ LogIs w1 l gm gs n q c) (h3 : Blk w1 gi 4 (truthsOf p (gs + 1))) (hi : gi ≠ gm) (hl : l ≠ gi) (hg : w.heap.size ≤ gi) (hq : ∀ j : Nat, j ≠ k → q j = p j) (hk : ∀ x, q x = true → 1 ≤ x ∧ x ≤ gs) (b : Bool) (hb : b = q k) :
    LogInv w (w1.setCell ⟨gi, k, none⟩ (.bool b)) l gm gi gs n q := by
  subst hb
  obtain ⟨c, hc, hL⟩ := h2
  refine ⟨h1.setCell (by exact hg) _, ⟨c, hc, hL.kept (grown_set _ _ _) (by simp; exact hl) (by simp; exact fun e => hi e.symm)⟩, ?_, hk⟩
  rw [← truthsOf_set p q _ k hq]
  exact h3.set_ k _
set_option maxHeartbeats 4000000 in
set_option maxRecDepth 100000 in
theorem logs_main (A : Option Addr) (n c : Nat) (acts : List (Int × Int)) (gs : Nat) (t : Int) (w : World) (hn : acts.length = n) (h100 : n ≤ 100) (hgs : gs ≤ 64) (hok : ∀ a ∈ acts, I64 a.1 ∧ I64 a.2) (hr : Row w w.heap.size A (acts.flatMap actVals)) :
    Calls Try.prog 3 #[.int .i64 gs, .slice A n c, .int .i64 t] w fun e w' => e = .returned (.bool true) ∧ Below w.heap.size w w' := by
  have HN := Lib.hid hn
  have HR := Lib.hid hr
  have HOK := Lib.hid hok
  have HGS := Lib.hid hgs
  clear hn hr hok
  have h0 : decide ((gs : Int) < 0) = false := by simp
  have h1 : decide ((64 : Int) < gs) = false := by simp; omega
  have hmk : ∀ w, (Instr.makeSlice 29 (.int .i64 ((gs : Int) + 1)) (.int .i64 ((gs : Int) + 1))).run Try.prog w = .ok (.slice (some ⟨w.heap.size, 0, none⟩) (gs + 1) (gs + 1)) (w.alloc (.cells (madeCells #[.bool false] (gs + 1)) 4)) := by
    have h := run_make_row' (P := Try.prog) 29 4 _ _ Try.underlying29 Try.infoBool rfl .i64 .i64 (gs + 1) (by omega) (by omega)
    simpa using h
  go_enter Try.func3, Try.ntmps3
  go_wp2_with fail
  refine (lnew_any gs HGS.out w).mono ?_
  rintro e w1 ⟨rfl, hL, hb1⟩
  have hl : ∃ l : Nat, Hid (l = w.heap.size + 1) := ⟨_, rfl⟩
  obtain ⟨l, HL⟩ := hl
  have hgm : ∃ gm : Nat, Hid (gm = w.heap.size) := ⟨_, rfl⟩
  obtain ⟨gm, HGM⟩ := hgm
  have hgi : ∃ gi : Nat, Hid (gi = w1.heap.size) := ⟨_, rfl⟩
  obtain ⟨gi, HGI⟩ := hgi
  have HL1 := Lib.hid hL
  rw [← HL.out]
  rw [← HL.out, ← HGM.out] at HL1
  have HB1 := Lib.hid hb1
  clear hL hb1
  go_wp2_with fail
  rw [← HGI.out]
  have hw2 : ∃ w2 : World, Hid (w2 = w1.alloc (.cells (madeCells #[.bool false] (gs + 1)) 4)) := ⟨_, rfl⟩
  obtain ⟨w2, HW2⟩ := hw2
  rw [← HW2.out]
  have hz1 : w.heap.size + 2 ≤ gi := by rw [HGI.out]; have := HL1.out.blk.lt; rw [HL.out] at this; omega
  have HNI := Lib.hid (show gi ≠ gm ∧ l ≠ gi ∧ w.heap.size ≤ gm ∧ w.heap.size ≤ gi by rw [HGM.out, HL.out]; omega)
  have HI0 := Lib.hid (show LogInv w w2 l gm gi gs 0 (fun _ => false) by
    refine ⟨?_, ⟨0, Nat.le_refl _, ?_⟩, ?_, fun x hx => by cases hx⟩
    · rw [HW2.out]; exact HB1.out.alloc HB1.out.size _
    · rw [HW2.out]; exact HL1.out.kept (World.grownBy_alloc _ _ none) (by simp) (by simp)
    · rw [HW2.out, HGI.out, truthsOf_none]; exact Blk.new _ _ _)
  clear hz1 HL1 HB1
  go_loopw [9] (fun vi wr => ∃ (i : Nat) (p : Int → Bool), i ≤ n ∧ vi = .int .i64 i ∧ Hid (LogInv w wr l gm gi gs i p)) (fun vi _ => n - (intOf vi).toNat)
  case atStart => exact ⟨0, _, by omega, rfl, HI0⟩
  case round =>
    obtain ⟨i, p, hi, rfl, HI⟩ := hrel
    clear HI0
    by_cases hlt : i < n
    · have hil : i < acts.length := by rw [HN.out]; exact hlt
      obtain ⟨b, off, rfl, hbl, hcx⟩ := HR.out.at_ (k := i * 2) (by rw [flat_length actVals_len]; omega)
      have hc0 := hcx _ _ (flat_at actVals_len acts i 0 _ _ (List.getElem?_eq_getElem hil) rfl)
      have hc1 := hcx _ _ (flat_at actVals_len acts i 1 _ _ (List.getElem?_eq_getElem hil) rfl)
      obtain ⟨hk1, hk2⟩ := HOK.out _ (List.getElem_mem hil)
      generalize acts[i] = a at *
      obtain ⟨kind, k⟩ := a
      simp only [Nat.add_zero] at hc0 hc1 hk1 hk2
      have F0 := Lib.hid (show ∀ w', Below w.heap.size w w' → w'.cell? ⟨b, off + i * 2, none⟩ = some (.int .i64 kind) from fun w' h => (h.cell (p := ⟨b, off + i * 2, none⟩) hbl).trans hc0)
      have F1 := Lib.hid (show ∀ w', Below w.heap.size w w' → w'.cell? ⟨b, off + i * 2 + 1, none⟩ = some (.int .i64 k) from fun w' h => (h.cell (p := ⟨b, off + i * 2 + 1, none⟩) hbl).trans (by rw [Nat.add_assoc]; exact hc1))
      have g0 := F0.out _ HI.out.below
      have g1 := F1.out _ HI.out.below
      have HK := Lib.hid hk2
      clear hcx hc0 hc1 hk1 hk2 hbl
      obtain ⟨cc, hcc, hLg⟩ := HI.out.log
      have HLG := Lib.hid hLg
      clear hLg
      by_cases hth : 1 ≤ k ∧ k ≤ gs
      · obtain ⟨ht1, ht2⟩ := hth
        obtain ⟨kn, rfl⟩ := Int.eq_ofNat_of_zero_le (show 0 ≤ k by omega)
        have hkn : kn < gs + 1 := by omega
        have hk64 : kn ≤ 64 := by omega
        by_cases hkd : kind = 0
        · subst hkd
          go_wp2_with fail
          refine (suspend_in HLG.out (by omega) kn (by omega) ht1 ht2).mono ?_
          rintro e w3 ⟨rfl, hs⟩
          obtain ⟨hb3, hl3, hi3⟩ := hs.inv HI.out HNI.out.2.2.1 HNI.out.1
          have HB3 := Lib.hid hb3
          have HL3 := Lib.hid hl3
          have HI3 := Lib.hid hi3
          clear hs hb3 hl3 hi3 g0 g1
          have g0 := F0.out _ HB3.out
          have g1 := F1.out _ HB3.out
          have q0 := HI3.out.cell kn
          rw [truthsOf_at _ _ _ hkn] at q0
          have qf := HI3.out.frozen kn
          have qz := HI3.out.lt
          have hpb : ∃ pb : Bool, Hid (pb = p kn) := ⟨_, rfl⟩
          obtain ⟨pb, HPB⟩ := hpb
          rw [← HPB.out] at q0
          rw [← HPB.out]
          go_wp2_with fail
          refine (mod_in kn (gs + 1) hkn (by omega) w3).mono ?_
          rintro e w' ⟨rfl, rfl⟩
          have HQ := Lib.hid (show addI p kn kn = true by unfold addI; simp)
          have HST := Lib.hid (inv_store (k := kn) (q := addI p kn) HB3.out HL3.out HI3.out HNI.out.1 HNI.out.2.1 HNI.out.2.2.2 (fun j hj => by unfold addI; rw [if_neg (by omega)]) (fun x hx => by unfold addI at hx; split at hx <;> first | (subst_vars; omega) | cases hx | exact HI.out.keys x hx) true HQ.out.symm)
          clear HB3 HL3 HI3
          have hw4 : ∃ w4 : World, Hid (w4 = w3.setCell ⟨gi, kn, none⟩ (.bool true)) := ⟨_, rfl⟩
          obtain ⟨w4, HW4⟩ := hw4
          rw [← HW4.out] at HST
          go_wp2_with fail
          rw [← HW4.out]
          clear g0 g1 q0 qf qz
          obtain ⟨c4, hc4, hL4⟩ := HST.out.log
          have HL4 := Lib.hid hL4
          clear hL4
          have q4 := HST.out.is_.cell kn
          rw [truthsOf_at _ _ _ hkn, HQ.out] at q4
          refine (has_set HL4.out kn ⟨by omega, by omega⟩).mono ?_
          rintro e w' ⟨rfl, rfl⟩
          rw [HQ.out]
          go_wp2_with fail
          refine (mod_in kn (gs + 1) hkn (by omega) w4).mono ?_
          rintro e w' ⟨rfl, rfl⟩
          go_wp2_with fail
          go_roundw
          case rel => exact ⟨i + 1, _, by omega, by go_num, HST⟩
          case measure => simp [intOf]; omega
        · have hkd' : (kind == 0) = false := by simpa using hkd
          clear hkd
          go_wp2_with fail
          refine (lresume_in HLG.out kn ⟨by omega, by omega⟩).mono ?_
          rintro e w3 ⟨rfl, hs⟩
          obtain ⟨hb3, hl3, hi3⟩ := hs.inv HI.out HNI.out.2.2.1 HNI.out.1
          have HB3 := Lib.hid hb3
          have HL3 := Lib.hid hl3
          have HI3 := Lib.hid hi3
          clear hs hb3 hl3 hi3 g0 g1
          have g0 := F0.out _ HB3.out
          have g1 := F1.out _ HB3.out
          have q0 := HI3.out.cell kn
          rw [truthsOf_at _ _ _ hkn] at q0
          have qf := HI3.out.frozen kn
          have qz := HI3.out.lt
          have hpb : ∃ pb : Bool, Hid (pb = p kn) := ⟨_, rfl⟩
          obtain ⟨pb, HPB⟩ := hpb
          rw [← HPB.out] at q0
          rw [← HPB.out]
          go_wp2_with fail
          refine (mod_in kn (gs + 1) hkn (by omega) w3).mono ?_
          rintro e w' ⟨rfl, rfl⟩
          have HQ := Lib.hid (show subI p kn kn = false by unfold subI; simp)
          have HST := Lib.hid (inv_store (k := kn) (q := subI p kn) HB3.out HL3.out HI3.out HNI.out.1 HNI.out.2.1 HNI.out.2.2.2 (fun j hj => by unfold subI; rw [if_neg (by omega)]) (fun x hx => by unfold subI at hx; split at hx <;> first | (subst_vars; omega) | cases hx | exact HI.out.keys x hx) false HQ.out.symm)
          clear HB3 HL3 HI3
          have hw4 : ∃ w4 : World, Hid (w4 = w3.setCell ⟨gi, kn, none⟩ (.bool false)) := ⟨_, rfl⟩
          obtain ⟨w4, HW4⟩ := hw4
          rw [← HW4.out] at HST
          go_wp2_with fail
          rw [← HW4.out]
          clear g0 g1 q0 qf qz
          obtain ⟨c4, hc4, hL4⟩ := HST.out.log
          have HL4 := Lib.hid hL4
          clear hL4
          have q4 := HST.out.is_.cell kn
          rw [truthsOf_at _ _ _ hkn, HQ.out] at q4
          refine (has_set HL4.out kn ⟨by omega, by omega⟩).mono ?_
          rintro e w' ⟨rfl, rfl⟩
          rw [HQ.out]
          go_wp2_with fail
          refine (mod_in kn (gs + 1) hkn (by omega) w4).mono ?_
          rintro e w' ⟨rfl, rfl⟩
          go_wp2_with fail
          go_roundw
          case rel => exact ⟨i + 1, _, by omega, by go_num, HST⟩
          case measure => simp [intOf]; omega
      · have hpk : p k = false := by
          cases h : p k
          · rfl
          · exact absurd (HI.out.keys k h) hth
        have HPK := Lib.hid hpk
        have HTH := Lib.hid hth
        clear hpk
        by_cases hk1 : 1 ≤ k
        · have hk2 : decide (k ≤ gs) = false := by simp; omega
          clear hth
          by_cases hkd : kind = 0
          · subst hkd
            go_wp2_with fail
            refine (suspend_no HLG.out k HK.out (.inl HTH.out)).mono ?_
            rintro e w' ⟨rfl, rfl⟩
            go_wp2_with fail
            refine (has_set HLG.out k HK.out).mono ?_
            rintro e w' ⟨rfl, rfl⟩
            rw [HPK.out]
            go_wp2_with fail
            go_roundw
            case rel => exact ⟨i + 1, p, by omega, by go_num, Lib.hid ⟨HI.out.below, ⟨cc, by omega, HLG.out.mono (Nat.le_succ i)⟩, HI.out.is_, HI.out.keys⟩⟩
            case measure => simp [intOf]; omega
          · have hkd' : (kind == 0) = false := by simpa using hkd
            clear hkd
            go_wp2_with fail
            refine (lresume_no HLG.out k HK.out HPK.out).mono ?_
            rintro e w' ⟨rfl, rfl⟩
            go_wp2_with fail
            refine (has_set HLG.out k HK.out).mono ?_
            rintro e w' ⟨rfl, rfl⟩
            rw [HPK.out]
            go_wp2_with fail
            go_roundw
            case rel => exact ⟨i + 1, p, by omega, by go_num, Lib.hid ⟨HI.out.below, ⟨cc, by omega, HLG.out.mono (Nat.le_succ i)⟩, HI.out.is_, HI.out.keys⟩⟩
            case measure => simp [intOf]; omega
        · have hk2 : decide (1 ≤ k) = false := by simpa using hk1
          clear hth hk1
          by_cases hkd : kind = 0
          · subst hkd
            go_wp2_with fail
            refine (suspend_no HLG.out k HK.out (.inl HTH.out)).mono ?_
            rintro e w' ⟨rfl, rfl⟩
            go_wp2_with fail
            refine (has_set HLG.out k HK.out).mono ?_
            rintro e w' ⟨rfl, rfl⟩
            rw [HPK.out]
            go_wp2_with fail
            go_roundw
            case rel => exact ⟨i + 1, p, by omega, by go_num, Lib.hid ⟨HI.out.below, ⟨cc, by omega, HLG.out.mono (Nat.le_succ i)⟩, HI.out.is_, HI.out.keys⟩⟩
            case measure => simp [intOf]; omega
          · have hkd' : (kind == 0) = false := by simpa using hkd
            clear hkd
            go_wp2_with fail
            refine (lresume_no HLG.out k HK.out HPK.out).mono ?_
            rintro e w' ⟨rfl, rfl⟩
            go_wp2_with fail
            refine (has_set HLG.out k HK.out).mono ?_
            rintro e w' ⟨rfl, rfl⟩
            rw [HPK.out]
            go_wp2_with fail
            go_roundw
            case rel => exact ⟨i + 1, p, by omega, by go_num, Lib.hid ⟨HI.out.below, ⟨cc, by omega, HLG.out.mono (Nat.le_succ i)⟩, HI.out.is_, HI.out.keys⟩⟩
            case measure => simp [intOf]; omega
    · obtain rfl : i = n := by omega
      obtain ⟨wo, rfl⟩ : ∃ wo : World, wo = wr := ⟨_, rfl⟩
      obtain ⟨i0, hi0, hz0, hz1, hz2⟩ := info_parts Try.info3
      have HI0 := Lib.hid hi0
      have HZ0 := Lib.hid hz0
      have HZ1 := Lib.hid hz1
      have HZ2 := Lib.hid hz2
      clear hi0 hz0 hz1 hz2 hmk
      have hB : ∃ B : Nat, Hid (B = wo.heap.size) := ⟨_, rfl⟩
      obtain ⟨B, HB⟩ := hB
      have HP0 := Lib.hid (show wantL p 1 = [] by
        have h : p 0 = false := by
          cases h : p 0
          · rfl
          · have := (HI.out.keys 0 h).1; omega
        simp [wantL, h])
      go_wp2_with fail
      go_loopw [12, 13] (fun va vi wr => ∃ (j : Nat) (A : Option Addr) (cw : Nat), 1 ≤ j ∧ j ≤ gs + 1 ∧ vi = .int .i64 j ∧ va = .slice A (wantL p j).length cw ∧ Hid (Own wr B 3 1 A (wantL p j).length cw (ints (wantL p j)) ∧ Below B wo wr)) (fun _ vi _ => gs + 1 - (intOf vi).toNat)
      case atStart => exact ⟨1, none, 0, by omega, by omega, rfl, by rw [HP0.out]; rfl, Lib.hid ⟨by rw [HP0.out]; exact Own.nil _ _ _ _, by rw [HB.out]; exact Below.refl _ _⟩⟩
      case round =>
        obtain ⟨j, A', cw, hj1, hj2, rfl, rfl, HW⟩ := hrel
        have HS := Lib.hid (wantL_succ p j)
        have HL := Lib.hid (wantL_len p j)
        have HWR := Lib.hid (show Below wo.heap.size wo wr by have := HW.out.2; rw [HB.out] at this; exact this)
        have HBS := Lib.hid (show B ≤ wr.heap.size by rw [HB.out]; exact HWR.out.size)
        have HIS := Lib.hid (show Blk wr gi 4 (truthsOf p (gs + 1)) from HI.out.is_.below HWR.out HI.out.is_.lt)
        by_cases hlt : j ≤ gs
        · have q0 := HIS.out.cell j
          rw [truthsOf_at _ _ _ (by omega)] at q0
          have hjg : j < gs + 1 := by omega
          have hm : ∃ m : Nat, Hid (m = (wantL p j).length) := ⟨_, rfl⟩
          obtain ⟨m, HM⟩ := hm
          have hm64 : m ≤ 65 := by rw [HM.out]; have := HL.out; omega
          rw [← HM.out] at HW ⊢
          have HPJ := Lib.hid (show p (j : Nat) = p j from rfl)
          cases hp : p (j : Nat) with
          | true =>
            rw [hp] at q0
            have HS' := Lib.hid (show wantL p (j + 1) = wantL p j ++ [(j : Int)] by rw [HS.out, hp]; rfl)
            have c1 : Hid (m + 1 ≤ maxLen) := by unfold maxLen; show _ ≤ _; omega
            clear hp
            go_wp2_with (at_builtin; refine wpList_append_1 _ rfl (.tmp 144) (.tmp 146) 27 rfl B 3 i0 (.int .i64 0) 1 8 Try.underlying27 HI0.out HZ0.out HZ1.out HZ2.out rfl (by decide) _ _ _ _ rfl (HW.out.1.alloc _) ⟨wr.heap.size, 0, none⟩ 1 [.int .i64 j] rfl rfl (cell_one_new _ _ _) (by simp [Value.oneCell']) c1.out (by omega) (by have := HBS.out; simp; omega) ?_; intro A2 c2 w2 hown2 hgrow2 hat2)
            go_roundw
            case rel =>
              refine ⟨j + 1, A2, c2, by omega, by omega, by go_num, ?_, Lib.hid ⟨?_, ?_⟩⟩
              · rw [HS'.out, List.length_append, ← HM.out]; rfl
              · rw [HS'.out, List.length_append, ← HM.out]
                have h : ints (wantL p j ++ [(j : Int)]) = ints (wantL p j) ++ [.int .i64 j] := by simp [ints]
                rw [h]; exact hown2
              · exact below_append HW.out.2 HW.out.1 (Nat.le_refl _) HBS.out hgrow2
            case measure => simp [intOf]; omega
          | false =>
            rw [hp] at q0
            have HS' := Lib.hid (show wantL p (j + 1) = wantL p j by rw [HS.out, hp]; simp)
            clear hp
            go_wp2_with fail
            go_roundw
            case rel => exact ⟨j + 1, A', cw, by omega, by omega, by go_num, by rw [HS'.out, ← HM.out], by rw [HS'.out, ← HM.out]; exact HW⟩
            case measure => simp [intOf]; omega
        · obtain rfl : j = gs + 1 := by omega
          obtain ⟨cc, hcc, hLg⟩ := HI.out.log
          have HLG := Lib.hid (show LogIs wr l gm gs i p cc from ⟨hLg.blk.below HWR.out hLg.blk.lt, by obtain ⟨D, h1, h2, h3⟩ := hLg.set_; exact ⟨D, h1.kept ⟨HWR.out.os, HWR.out.tape, HWR.out.output, HWR.out.size, fun i hi _ => HWR.out.block i hi⟩ (row := none) (by simp), h2, h3⟩, hLg.ne⟩)
          have HB9 := Lib.hid (HI.out.below.trans (HWR.out.mono HI.out.below.size))
          have HKY := Lib.hid (show ∀ x, p x = true → 0 ≤ x ∧ x < ((gs + 1 : Nat) : Int) from fun x hx => by have := HI.out.keys x hx; omega)
          clear hLg
          go_wp2_with fail
          refine (all_set l gm i gs p cc wr (wantL p (gs + 1)) HLG.out.blk HLG.out.set_ (by omega) (wantL_rise _ _) (wantL_mem p _ HKY.out)).mono ?_
          rintro e w7 ⟨A7, c7, rfl, hr7, hb7⟩
          have HR7 := Lib.hid hr7
          have HO7 := Lib.hid ((HW.out.1.row.below hb7).more hb7.size)
          have HB7 := Lib.hid (HB9.out.trans (hb7.mono HB9.out.size))
          have hml : Hid ((wantL p (gs + 1)).length ≤ maxLen) := by have := HL.out; unfold maxLen; show _ ≤ _; omega
          clear hr7 hb7
          go_wp2_with fail
          refine (same_any A7 A' _ _ c7 cw (wantL p (gs + 1)) (wantL p (gs + 1)) w7 rfl rfl hml.out hml.out HR7.out HO7.out).mono ?_
          rintro e w8 ⟨rfl, hb8⟩
          rw [decide_eq_true (rfl : wantL p (gs + 1) = wantL p (gs + 1))]
          have HB8 := Lib.hid (HB7.out.trans (hb8.mono HB7.out.size))
          clear hb8
          go_wp2_with (go_at_call 4; refine (alive26 _).mono ?_; rintro e w1 ⟨rfl, rfl⟩)
          go_ret
          exact ⟨rfl, HB8.out⟩
end Go.Proofs.Ytndidpeklbllpaa

/-
  Chapter 9: the walk of ValidMends. Conditions: the table is laid, the program lies in memory.
-/
import Derived.Test.YthhmnipggienaaaDoorRMend9
import Derived.Test.YthhmnipggienaaaDoorStays9
import Derived.Test.YthhmnipggienaaaDoorStops9
import Derived.Deep.RegionHeld3
namespace Go.Proofs.YthhmnipggienaaaDoor
open Go.RowKit
set_option maxHeartbeats 4000000 in
set_option maxRecDepth 100000 in
theorem mends09 (A : Option Addr) (c : Nat) (fs : List Fn) (fn pc : Int) (w : World) (hT : Tab w) (hm : fs.length ≤ maxLen) (hf : FnsOk w w.heap.size A fs) :
    Calls Tryd.prog 11 #[.agg #[.slice A fs.length c], .int .i64 fn, .int .i64 pc] w fun e w' => e = .returned (.bool true) ∧ Below w.heap.size w w' := by
  have hB : Below w.heap.size w (w.alloc (.cells #[.slice A fs.length c] 41)) := (Below.refl _ _).alloc (Nat.le_refl _) _
  have HM := Lib.hid hm
  have HT2 := Lib.hid (hT.step hB)
  have HF2 := Lib.hid (hf.step hB)
  have HB := Lib.hid hB
  have hblk := Blk.new w 41 #[.slice A fs.length c]
  have hgW := hblk.lt
  have HBK := Lib.hid hblk
  clear hB hm hT hf hblk
  generalize hn : fs.length = n at *
  have HN := Lib.hid hn
  clear hn
  go_enter Tryd.func11, Tryd.ntmps11
  go_wp2_with fail
  generalize (w.alloc (.cells #[.slice A n c] 41)) = W at *
  refine (light_n A c n fs _ HN HM.out HF2.out).mono ?_
  rintro e w1 ⟨rfl, hb1⟩
  have H1 := Lib.hid hb1
  have p0 := (HBK.out.below hb1 hgW).cell 0
  simp at p0
  clear hb1
  cases hl : lightP fs
  · go_wp2_with fail
    refine (alive09 _ (HT2.out.step H1.out)).mono ?_
    rintro e w2 ⟨rfl, hb2⟩
    have H2 := Lib.hid (H1.out.trans (hb2.mono H1.out.size))
    clear hb2
    go_wp2_with fail
    go_ret
    exact ⟨rfl, HB.out.trans (H2.out.mono HB.out.size)⟩
  · obtain ⟨l1, l2⟩ := light_of hl
    have hn100 : Hid (n ≤ 100) := by show _ ≤ _; rw [← HN.out]; exact l1
    have L2 := Lib.hid l2
    clear l1 l2 hl
    by_cases hin : 0 ≤ fn ∧ fn < n
    focus
      obtain ⟨h0, h1⟩ := hin
      obtain ⟨k, rfl⟩ := Int.eq_ofNat_of_zero_le h0
      have hk : k < n := by omega
      have hkc : k < fs.length := by rw [HN.out]; exact hk
      obtain ⟨b, off, a, eA, hbb, c0, c1, hfn⟩ := (HF2.out.step H1.out).at_ k hkc
      have HFN := Lib.hid hfn
      generalize hfk : fs[k]'hkc = f at *
      clear hfk
      obtain ⟨C, m, fc, S, fm, fd⟩ := a
      subst eA
      simp only at c0 c1
      clear h0 h1 hfn
      go_wp2_with fail
      have hB5 : Below w1.heap.size w1 (w1.alloc (.cells #[.slice C m fc, .slice S fm fd] 54)) := (Below.refl _ _).alloc (Nat.le_refl _) _
      have hb5 := Blk.new w1 54 #[.slice C m fc, .slice S fm fd]
      have H5 := Lib.hid (H1.out.trans (hB5.mono H1.out.size))
      have HFN5 := Lib.hid (HFN.out.step hB5)
      have HBB := Lib.hid hb5
      clear hB5 hb5 c0 c1
      generalize (w1.alloc (.cells #[.slice C m fc, .slice S fm fd] 54)) = W5 at *
      have hz : W5.heap.size ≤ W5.heap.size := Nat.le_refl _
      have t0 : ∀ w', Below W5.heap.size W5 w' → w'.cell? ⟨w1.heap.size, 0, none⟩ = some (.slice C m fc) := fun w' h => (HBB.out.below h HBB.out.lt).cell 0
      have t1 : ∀ w', Below W5.heap.size W5 w' → w'.cell? ⟨w1.heap.size, 1, none⟩ = some (.slice S fm fd) := fun w' h => (HBB.out.below h HBB.out.lt).cell 1
      have hst : ∀ w', Below W5.heap.size W5 w' → FnOk w' w'.heap.size ⟨C, m, fc, S, fm, fd⟩ f := fun w' h => HFN5.out.step h
      have hrs : ∀ w', Below W5.heap.size W5 w' → Row w' w'.heap.size S (boolVals f.safe) := fun w' h => (hst w' h).2.2.2.1
      have HRS := Lib.hid hrs
      have HL5 := Lib.hid (show f.safe.length = fm from HFN5.out.2.1.symm)
      have HN5 := Lib.hid (show m ≤ maxLen from HFN5.out.2.2.2.2.1)
      have HM5 := Lib.hid (show fm ≤ maxLen from HFN5.out.2.2.2.2.2.1)
      clear hrs
      have hcase : (pc = 0 ∧ decide (0 < m) = true ∧ proB m pc = true) ∨ (pc = 0 ∧ decide (0 < m) = false ∧ proB m pc = false) ∨ ((pc == 0) = false ∧ proB m pc = false) := by
        by_cases h0 : pc = 0
        · by_cases hm0 : 0 < m
          · left; simp [h0, hm0, proB]
          · right; left; exact ⟨h0, by simpa using hm0, by simp [proB, h0]; omega⟩
        · right; right; simp [proB, h0]
      clear hst
      rcases hcase with ⟨rfl, hm0, hp⟩ | ⟨rfl, hm0, hp⟩ | ⟨h0, hp⟩
      all_goals
        refine region_below W5 W5.heap.size (by kernel_rfl) (by kernel_rfl) (Below.refl _ _) ?_
        repeat (first | go_big_quiet_skip | (go_big_quiet_want; first | (go_big_quiet_op; first | go_big_quiet_on | ((first | with_reducible refine ⟨_, fun _ _ => rfl, ?_⟩ | with_reducible refine ⟨_, fun w' hw' => calm_of hw' hz (pro_any _ _ _ _ _ _ _ _), ?_⟩ | with_reducible refine ⟨_, fun w' hw' => calm_of hw' hz (stops_any _ _ _ _ _ _ f.safe _ _ HL5.out HN5.out HM5.out (HRS.out _ hw')), ?_⟩ | with_reducible refine ⟨_, fun w' hw' => calm_of hw' hz (rstops_any _ _ _ _ _ _ f.safe _ _ HL5.out HN5.out HM5.out (HRS.out _ hw')), ?_⟩); go_big_quiet_on)) | (simp (contextual := true) [go_sem, t0, t1]; with_reducible refine ⟨_, fun _ _ => rfl, ?_⟩; go_big_quiet_on)))
        refine wpQuiet_nil ?_
        intro w4 hw4
        have H4 := Lib.hid (H5.out.trans (hw4.mono H5.out.size))
        clear hw4 t0 t1
        go_wp2_with fail
      all_goals (generalize (some ⟨b, off, none⟩ : Option Addr) = A at *)
    rotate_left 3
    focus
      have hd : (0 ≤ fn ∧ decide (fn < (n : Int)) = false) ∨ decide (0 ≤ fn) = false := by
        by_cases h0 : 0 ≤ fn
        · left; refine ⟨h0, ?_⟩; simp; omega
        · right; simpa using h0
      clear hin
      rcases hd with ⟨hd0, hd1⟩ | hd0
      all_goals
        go_wp2_with fail
        have H4 := H1
        generalize w1 = w4 at *
    all_goals
      have p4 := (HBK.out.below H4.out hgW).cell 0
      have hg4 := (HBK.out.below H4.out hgW).lt
      simp at p4
      go_region_held3 (fun w' => w'.cell? ⟨w.heap.size, 0, none⟩ = some (.slice A n c)) (first | exact k9 | exact k8 | exact k7 | exact k6 | go_keep) (first | (go_at_call 40; refine (mend_n A c n fs _ HN ((HT2.out.step H4.out).step (Below.refl _ _).drew) hn100.out L2.out ((HF2.out.step H4.out).step (Below.refl _ _).drew)).mono ?_; rintro e w6 ⟨A6, c6, rfl, hf6, hb6⟩; have HF6 := Lib.hid hf6; have H6 := Lib.hid (show Below w4.heap.size w4 w6 from (Below.refl _ _).drew.trans hb6); have k6 : w6.cell? ⟨w.heap.size, 0, none⟩ = some (.slice A n c) := (H6.out.cell (p := ⟨w.heap.size, 0, none⟩) hg4).trans p4; clear hf6 hb6) | (go_at_call 47; refine (rmend_any A c fs n HN _ hn100.out L2.out ((HF2.out.step H4.out).step H6.out)).mono ?_; rintro e w7 ⟨A7, c7, rfl, hf7, hb7⟩; have HF7 := Lib.hid hf7; have HF67 := Lib.hid (HF6.out.step hb7); have H7 := Lib.hid (H6.out.trans (hb7.mono H6.out.size)); have k7 : w7.cell? ⟨w.heap.size, 0, none⟩ = some (.slice A n c) := (H7.out.cell (p := ⟨w.heap.size, 0, none⟩) hg4).trans p4; clear hf7 hb7) | (go_at_call 41; refine (same7_n A6 A7 c6 c7 n (mendP fs) _ (show _ = _ by rw [mendP_length]; exact HN.out) (hundred_le hn100.out) HF67.out HF7.out).mono ?_; rintro e w8 ⟨rfl, hb8⟩; have H8 := Lib.hid (H7.out.trans (hb8.mono H7.out.size)); have k8 : w8.cell? ⟨w.heap.size, 0, none⟩ = some (.slice A n c) := (H8.out.cell (p := ⟨w.heap.size, 0, none⟩) hg4).trans p4; clear hb8) | (go_at_call 35; refine (alive09 _ ((HT2.out.step H4.out).step H8.out)).mono ?_; rintro e w9 ⟨rfl, hb9⟩; have H9 := Lib.hid (H8.out.trans (hb9.mono H8.out.size)); have k9 : w9.cell? ⟨w.heap.size, 0, none⟩ = some (.slice A n c) := (H9.out.cell (p := ⟨w.heap.size, 0, none⟩) hg4).trans p4; clear hb9))
      go_wp2_with fail
      go_ret
      exact ⟨rfl, HB.out.trans ((H4.out.trans (H9.out.mono H4.out.size)).mono HB.out.size)⟩
end Go.Proofs.YthhmnipggienaaaDoor

/-
  Chapter 9: the walk of ValidStays. Conditions: the table is laid, the program lies in memory.
-/
import Derived.Test.YthhmnipggienaaaDoorMend9b
import Derived.Test.YthhmnipggienaaaDoorPlain9
import Derived.Test.YthhmnipggienaaaDoorLaw09
import Derived.Deep.RegionHeld3
import Derived.Deep.DeepMust
namespace Go.Proofs.YthhmnipggienaaaDoor
open Go.RowKit
theorem light_of {fs : List Fn} (h : lightP fs = true) : fs.length ≤ 100 ∧ ∀ f ∈ fs, f.code.length ≤ 100 := by
  unfold lightP at h
  rw [Bool.and_eq_true, decide_eq_true_eq, List.all_eq_true] at h
  refine ⟨by omega, fun f hf => ?_⟩
  have := h.2 f hf
  unfold lightF at this
  rw [Bool.and_eq_true, decide_eq_true_eq] at this
  omega
theorem mend_light {fs : List Fn} (h : ∀ f ∈ fs, f.code.length ≤ 100) : ∀ f ∈ mendP fs, f.code.length ≤ 100 := by
  intro f hf
  obtain ⟨g, hg, rfl⟩ := List.mem_map.1 hf
  exact h g hg
section
variable (A B : Option Addr) (c d n : Nat) (fs : List Fn) (w : World) (hn : Hid (fs.length = n))
include hn
theorem mend_n (hT : Tab w) (hm : n ≤ 100) (hlight : ∀ f ∈ fs, f.code.length ≤ 100) (hf : FnsOk w w.heap.size A fs) :
    Calls Tryd.prog 40 #[.agg #[.slice A n c]] w fun e w' => ∃ A' c', e = .returned (.agg #[.slice A' n c']) ∧ FnsOk w' w'.heap.size A' (mendP fs) ∧ Below w.heap.size w w' := by
  obtain rfl := hn.out
  exact mend_any A c fs w hT hm hlight hf
theorem checkP_n (hT : Tab w) (hm : n ≤ maxLen) (hf : FnsOk w w.heap.size A fs) :
    Calls Tryd.prog 36 #[.agg #[.slice A n c]] w fun e w' => e = .returned (tri (checkP fs)) ∧ Below w.heap.size w w' := by
  obtain rfl := hn.out
  exact checkP_any A c fs w hT hm hf
theorem same7_n (hm : n ≤ maxLen) (ha : FnsOk w w.heap.size A fs) (hb : FnsOk w w.heap.size B fs) :
    Calls Tryd.prog 41 #[.agg #[.slice A n c], .agg #[.slice B n d]] w fun e w' => e = .returned (.bool true) ∧ Below w.heap.size w w' := by
  obtain rfl := hn.out
  exact same7_true A B c d fs w hm ha hb
theorem light_n (hm : n ≤ maxLen) (hf : FnsOk w w.heap.size A fs) :
    Calls Tryd.prog 34 #[.agg #[.slice A n c]] w fun e w' => e = .returned (.bool (lightP fs)) ∧ Below w.heap.size w w' := by
  obtain rfl := hn.out
  exact light_any A c fs w hm hf
end
theorem hundred_le {n : Nat} (h : n ≤ 100) : n ≤ maxLen := by unfold maxLen; omega
set_option maxHeartbeats 4000000 in
set_option maxRecDepth 100000 in
theorem stays09 (A : Option Addr) (c : Nat) (fs : List Fn) (w : World) (hT : Tab w) (hm : fs.length ≤ maxLen) (hf : FnsOk w w.heap.size A fs) :
    Calls Tryd.prog 9 #[.agg #[.slice A fs.length c]] w fun e w' => e = .returned (.bool true) ∧ Below w.heap.size w w' := by
  have hB : Below w.heap.size w (w.alloc (.cells #[.slice A fs.length c] 41)) := (Below.refl _ _).alloc (Nat.le_refl _) _
  have HM := Lib.hid hm
  have HT2 := Lib.hid (hT.step hB)
  have HF2 := Lib.hid (hf.step hB)
  have HB := Lib.hid hB
  have hblk := Blk.new w 41 #[.slice A fs.length c]
  have hgW := hblk.lt
  have HBK := Lib.hid hblk
  clear hB hm hT hf hblk
  generalize hn : fs.length = n at *
  have HN := Lib.hid hn
  clear hn
  go_enter Tryd.func9, Tryd.ntmps9
  go_wp2_with fail
  generalize (w.alloc (.cells #[.slice A n c] 41)) = W at *
  have q0 := (HBK.out).cell 0
  rw [← HN.out]
  refine (light_any _ _ fs _ (by rw [HN.out]; exact HM.out) HF2.out).mono ?_
  rintro e w1 ⟨rfl, hb1⟩
  have H1 := Lib.hid hb1
  have p0 := (HBK.out.below hb1 hgW).cell 0
  simp at p0
  clear hb1 q0
  cases hl : lightP fs
  · go_wp2_with fail
    refine (alive09 _ (HT2.out.step H1.out)).mono ?_
    rintro e w2 ⟨rfl, hb2⟩
    have H2 := Lib.hid (H1.out.trans (hb2.mono H1.out.size))
    clear hb2
    go_wp2_with fail
    go_ret
    exact ⟨rfl, HB.out.trans (H2.out.mono HB.out.size)⟩
  · obtain ⟨l1, l2⟩ := light_of hl
    have L1 := Lib.hid l1
    have L2 := Lib.hid l2
    clear l1 l2 hl
    go_wp2_with fail
    rw [← HN.out]
    refine (checkP_any _ _ fs _ (HT2.out.step H1.out) (hundred_le L1.out) (HF2.out.step H1.out)).mono ?_
    rintro e w2 ⟨rfl, hb2⟩
    have H2 := Lib.hid (H1.out.trans (hb2.mono H1.out.size))
    have p1 := (HBK.out.below H2.out hgW).cell 0
    simp at p1
    clear hb2 p0
    generalize hr : checkP fs = r
    obtain ⟨x, y, z⟩ := r
    have HR := Lib.hid hr
    clear hr
    simp only [tri]
    go_wp2_with fail
    refine (mend_n A c n fs _ HN (HT2.out.step H2.out) (by rw [← HN.out]; exact L1.out) L2.out (HF2.out.step H2.out)).mono ?_
    rintro e w3 ⟨A3, c3, rfl, hf3, hb3⟩
    have H3 := Lib.hid (H2.out.trans (hb3.mono H2.out.size))
    have HF3 := Lib.hid hf3
    clear hb3 hf3 p1
    have hblk4 := Blk.new w3 41 #[.slice A3 n c3]
    have hB4 : Below w3.heap.size w3 (w3.alloc (.cells #[.slice A3 n c3] 41)) := (Below.refl _ _).alloc (Nat.le_refl _) _
    have H4 := Lib.hid (H3.out.trans (hB4.mono H3.out.size))
    have HF4 := Lib.hid (HF3.out.step hB4)
    have p1 := (HBK.out.below H4.out hgW).cell 0
    have HBK4 := Lib.hid hblk4
    have HN2 : Hid ((mendP fs).length = n) := by show _ = _; rw [mendP_length]; exact HN.out
    have L3 := Lib.hid (mend_light L2.out)
    have hn100 : Hid (n ≤ 100) := by show _ ≤ _; rw [← HN.out]; exact L1.out
    simp at p1
    clear hB4 hblk4
    by_cases hz : z = 0
    focus
      subst hz
      have hsame := check_same HR.out
      have HS := Lib.hid hsame
      clear hsame
      go_wp2_with fail
      refine (same7_n A3 A c3 c n fs _ HN (hundred_le hn100.out) (by have := HF4.out; rwa [HS.out] at this) (HF2.out.step H4.out)).mono ?_
      rintro e w5 ⟨rfl, hb5⟩
      have H5 := Lib.hid (H4.out.trans (hb5.mono H4.out.size))
      have HF5 := Lib.hid (HF4.out.step hb5)
      have HB5 := Lib.hid (HBK4.out.below hb5 HBK4.out.lt)
      have p2 := HB5.out.cell 0
      simp at p2
      clear hb5 p1 HS
      go_wp2_with fail
    rotate_left
    focus
      have hz' : (z == 0) = false := by simpa using hz
      have H5 := H4
      have HF5 := HF4
      have HB5 := HBK4
      clear hz
      go_wp2_with fail
      generalize hw5 : (w3.alloc (.cells #[.slice A3 n c3] 41)) = w5 at *
      clear hw5
    all_goals
      generalize w3.heap.size = g6 at *
      refine (checkP_n A3 c3 n (mendP fs) _ HN2 (HT2.out.step H5.out) (hundred_le hn100.out) HF5.out).mono ?_
      rintro e w6 ⟨rfl, hb6⟩
      have H6 := Lib.hid (H5.out.trans (hb6.mono H5.out.size))
      have HF6 := Lib.hid (HF5.out.step hb6)
      have HB6 := Lib.hid (HB5.out.below hb6 HB5.out.lt)
      have p6 := HB6.out.cell 0
      have hg6 := HB6.out.lt
      simp at p6
      clear hb6
      generalize hr : checkP (mendP fs) = r
      obtain ⟨i, pc, z2⟩ := r
      obtain ⟨m1, m2⟩ := check_mend hr
      have hz2 : (z2 = 9 ∧ 0 ≤ pc) ∨ (z2 = 10 ∧ ∃ (k : Nat) (hk : k < fs.length), i = k ∧ pc = (fs[k].code.length : Int) - 1) ∨ ((z2 == 9) = false ∧ (z2 == 10) = false) := by
        by_cases e9 : z2 = 9
        · exact .inl ⟨e9, m1 e9⟩
        · by_cases e10 : z2 = 10
          · exact .inr (.inl ⟨e10, m2 e10⟩)
          · exact .inr (.inr ⟨by simpa using e9, by simpa using e10⟩)
      clear m1 m2 hr
      simp only [tri]
      rcases hz2 with ⟨rfl, hpc⟩ | ⟨rfl, k, hk, rfl, rfl⟩ | ⟨h9, h10⟩
      focus
        go_wp2_with fail
      rotate_left
      focus
        obtain ⟨b, off, a, eA, hbb, c0, c1, hfn⟩ := HF6.out.at_ k (by rw [mendP_length]; exact hk)
        have han : a.n = fs[k].code.length := by
          have := hfn.1
          rw [this]
          simp [mendP, mendF]
        have hkn : k < n := by rw [← HN.out]; exact hk
        have hcl : fs[k].code.length ≤ 100 := L2.out _ (List.getElem_mem _)
        subst eA
        rw [han] at c0
        generalize fs[k].code.length = cl at *
        clear hfn han c1
        go_wp2_with fail
        generalize (some ⟨b, off, none⟩ : Option Addr) = A3 at *
      rotate_left
      focus
        go_wp2_with fail
      all_goals
        go_region_held3 (fun w' => w'.cell? ⟨g6, 0, none⟩ = some (.slice A3 n c3)) (first | exact k9 | exact k8 | exact k7 | go_keep) (first | (go_at_call 40; refine (mend_n A3 c3 n (mendP fs) _ HN2 ((HT2.out.step H6.out).step (Below.refl _ _).drew) hn100.out L3.out (HF6.out.step (Below.refl _ _).drew)).mono ?_; rintro e w7 ⟨A7, c7, rfl, hf7, hb7⟩; rw [mend_mend] at hf7; have HF7 := Lib.hid hf7; have H7 := Lib.hid (show Below w6.heap.size w6 w7 from (Below.refl _ _).drew.trans hb7); have k7 : w7.cell? ⟨g6, 0, none⟩ = some (.slice A3 n c3) := (H7.out.cell (p := ⟨g6, 0, none⟩) hg6).trans p6; clear hf7 hb7) | (go_at_call 41; refine (same7_n A7 A3 c7 c3 n (mendP fs) _ HN2 (hundred_le hn100.out) HF7.out (HF6.out.step H7.out)).mono ?_; rintro e w8 ⟨rfl, hb8⟩; have H8 := Lib.hid (H7.out.trans (hb8.mono H7.out.size)); have k8 : w8.cell? ⟨g6, 0, none⟩ = some (.slice A3 n c3) := (H8.out.cell (p := ⟨g6, 0, none⟩) hg6).trans p6; clear hb8) | (go_at_call 35; refine (alive09 _ ((HT2.out.step H6.out).step H8.out)).mono ?_; rintro e w9 ⟨rfl, hb9⟩; have H9 := Lib.hid (H8.out.trans (hb9.mono H8.out.size)); have k9 : w9.cell? ⟨g6, 0, none⟩ = some (.slice A3 n c3) := (H9.out.cell (p := ⟨g6, 0, none⟩) hg6).trans p6; clear hb9))
        go_wp2_with fail
        go_ret
        exact ⟨rfl, HB.out.trans ((H6.out.trans (H9.out.mono H6.out.size)).mono HB.out.size)⟩
end Go.Proofs.YthhmnipggienaaaDoor

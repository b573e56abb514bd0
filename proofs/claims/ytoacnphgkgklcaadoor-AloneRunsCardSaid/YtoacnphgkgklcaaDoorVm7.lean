/-
  Chapter 11: contracts of vm.Fits, the reference's place and Fits. Conditions: program and thread lie in memory; the table isa.rows.
-/
import Derived.Test.YtoacnphgkgklcaaDoorVm6
namespace Go.Proofs.YtoacnphgkgklcaaDoor
open Go.RowKit
/-- May a program run? -/
def runB (fs : List Fn) : Bool := decide ((checkP fs).2.2 = 0)
/-- Does a thread fit? -/
def fitsT (fs : List Fn) (t : Th) : Bool := runB fs && (t.done || fitsP fs t)
set_option maxHeartbeats 4000000 in
theorem vmFits_any (t : Th) (A B : Option Addr) (c d : Nat) (fs : List Fn) (w : World) (hT : Tab w) (hm : fs.length ≤ maxLen) (hf : FnsOk w w.heap.size A fs) (ht : ThOk w w.heap.size t B d) :
    Calls Tryd.prog 13 #[.agg #[.slice A fs.length c], .agg (thArr t B d)] w fun e w' => e = .returned (.bool (fitsT fs t)) ∧ Below w.heap.size w w' := by
  have h11 := thArr_11 B d ht.regs
  have HT := Lib.hid ht
  have HTA := Lib.hid hT
  have HF := Lib.hid hf
  have HM := Lib.hid hm
  have HSZ := Lib.hid (show (Tryd.prog.info? 28).map (·.size) = some (thArr t B d).size by rw [thArr_size B d ht.regs]; exact Tryd.infoTh)
  clear ht hf hm hT
  generalize hX : thArr t B d = X at *
  have HX := Lib.hid hX
  clear hX
  have hb0 := below2 w (.cells #[.slice A fs.length c] 24) (.cells X 28)
  have hW : ∃ W : World, Hid (W = (w.alloc (.cells #[.slice A fs.length c] 24)).alloc (.cells X 28)) := ⟨_, rfl⟩
  obtain ⟨W, HW⟩ := hW
  have hBP : Blk W w.heap.size 24 #[.slice A fs.length c] := by rw [HW.out]; exact (Blk.new w _ _).alloc _
  have hBT : Blk W (w.heap.size + 1) 28 X := by rw [HW.out]; exact heap_alloc2_new w _ _
  rw [← HW.out] at hb0
  have HB0 := Lib.hid hb0
  have HBP := Lib.hid hBP
  have HBT := Lib.hid hBT
  clear hb0 hBP hBT
  go_enter Tryd.func13, Tryd.ntmps13
  go_wp2_with fail
  rw [← HW.out]
  refine (checkP_any A c fs W (HTA.out.step HB0.out) HM.out (HF.out.step HB0.out)).mono ?_
  rintro e w1 ⟨rfl, hb1⟩
  have HB1 := Lib.hid (HB0.out.trans (hb1.mono HB0.out.size))
  have hBP1 := HBP.out.below hb1 HBP.out.lt
  have HBT1 := Lib.hid (HBT.out.below hb1 HBT.out.lt)
  have hc11 := HBT1.out.cell 11
  rw [h11] at hc11
  have hcp := hBP1.cell 0
  simp only [List.getElem?_toArray, List.getElem?_cons_zero] at hcp
  clear hb1 hBP1 h11
  unfold tri
  have HRB := Lib.hid (show runB fs = decide ((checkP fs).2.2 = 0) from rfl)
  generalize checkP fs = r at *
  obtain ⟨r1, r2, r3⟩ := r
  simp only at HRB
  by_cases h3 : r3 = 0
  · subst h3
    cases hdn : t.done with
    | true =>
      have HE := Lib.hid (show fitsT fs t = true by unfold fitsT; rw [HRB.out, hdn]; rfl)
      rw [hdn] at hc11
      clear hdn
      go_wp2_with fail
      go_ret
      exact ⟨by rw [HE.out]; rfl, HB1.out⟩
    | false =>
      have HE := Lib.hid (show fitsT fs t = fitsP fs t by unfold fitsT; rw [HRB.out, hdn]; rfl)
      rw [hdn] at hc11
      clear hdn
      go_wp2_with (refine wpList_load_rowW (by rfl) 28 _ rfl (w.heap.size + 1) rfl 28 X (0, 0) _ HBT1.out Tryd.underlying28 rfl HSZ.out ?_)
      rw [← HX.out]
      refine (fits_any t A B c d fs w1 HM.out (HF.out.step HB1.out) (HT.out.step HB1.out)).mono ?_
      rintro e w2 ⟨rfl, hb2⟩
      have HB2 := Lib.hid (HB1.out.trans (hb2.mono HB1.out.size))
      clear hb2
      go_wp2_with fail
      go_ret
      exact ⟨by rw [HE.out]; rfl, HB2.out⟩
  · have HE := Lib.hid (show fitsT fs t = false by unfold fitsT; rw [HRB.out, decide_eq_false h3]; rfl)
    have h3' : (r3 != 0) = true := by simpa using h3
    clear h3
    go_wp2_with fail
    go_ret
    exact ⟨by rw [HE.out]; rfl, HB1.out⟩
end Go.Proofs.YtoacnphgkgklcaaDoor

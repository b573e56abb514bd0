/-
  Chapter 11: contract of the law's own Light. Conditions: program and thread lie in memory.
-/
import Derived.Test.YtoacnphgkgklcaaDoorLaw11
import Derived.Test.YtoacnphgkgklcaaDoorStay11
namespace Go.Proofs.YtoacnphgkgklcaaDoor
open Go.RowKit
def light11 (fs : List Fn) (t : Th) : Bool := lightP fs && decide (t.stack.length ≤ 40)
set_option maxHeartbeats 2000000 in
set_option maxRecDepth 100000 in
theorem light11_any (t : Th) (A B : Option Addr) (c d : Nat) (fs : List Fn) (w : World) (hm : fs.length ≤ maxLen) (hf : FnsOk w w.heap.size A fs) (ht : ThOk w w.heap.size t B d) :
    Calls Tryd.prog 8 #[.agg #[.slice A fs.length c], .agg (thArr t B d)] w fun e w' => e = .returned (.bool (light11 fs t)) ∧ Below w.heap.size w w' := by
  have h10 := thArr_10 B d ht.regs
  have HF := Lib.hid hf
  have HM := Lib.hid hm
  have hlen := Nat.le_trans ht.len ht.cap
  unfold maxLen at hlen
  clear ht hf hm
  generalize thArr t B d = X at *
  have hb0 := below2 w (.cells #[.slice A fs.length c] 24) (.cells X 28)
  have hW : ∃ W : World, Hid (W = (w.alloc (.cells #[.slice A fs.length c] 24)).alloc (.cells X 28)) := ⟨_, rfl⟩
  obtain ⟨W, HW⟩ := hW
  have hBT : Blk W (w.heap.size + 1) 28 X := by rw [HW.out]; exact heap_alloc2_new w _ _
  rw [← HW.out] at hb0
  have HB0 := Lib.hid hb0
  have HBT := Lib.hid hBT
  clear hb0 hBT
  go_enter Tryd.func8, Tryd.ntmps8
  go_wp2_with fail
  rw [← HW.out]
  refine (light_any A c fs W HM.out (HF.out.step HB0.out)).mono ?_
  rintro e w1 ⟨rfl, hb1⟩
  have HB1 := Lib.hid (HB0.out.trans (hb1.mono HB0.out.size))
  have hc := (HBT.out.below hb1 HBT.out.lt).cell 10
  rw [h10] at hc
  clear hb1 h10
  cases hl : lightP fs with
  | false =>
    have HE := Lib.hid (show light11 fs t = false by unfold light11; rw [hl]; rfl)
    clear hl
    go_wp2_with fail
    go_ret
    exact ⟨by rw [HE.out]; rfl, HB1.out⟩
  | true =>
    have HE := Lib.hid (show light11 fs t = decide (t.stack.length ≤ 40) by unfold light11; rw [hl]; rfl)
    clear hl
    by_cases h40 : t.stack.length ≤ 40
    · have hd : decide ((t.stack.length : Int) ≤ 40) = true := by simp; omega
      go_wp2_with fail
      go_ret
      exact ⟨by rw [HE.out, decide_eq_true h40]; rfl, HB1.out⟩
    · have hd : decide ((t.stack.length : Int) ≤ 40) = false := by simp; omega
      go_wp2_with fail
      go_ret
      exact ⟨by rw [HE.out, decide_eq_false h40]; rfl, HB1.out⟩
end Go.Proofs.YtoacnphgkgklcaaDoor

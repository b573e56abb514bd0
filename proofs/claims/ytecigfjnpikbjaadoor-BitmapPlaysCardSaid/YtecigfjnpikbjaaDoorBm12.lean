/-
  Chapter 5: contract of the law's own 'alive'. Condition: the library's table.
-/
import Derived.Test.YtecigfjnpikbjaaDoorBm11
import Derived.Test.YtecigfjnpikbjaaDoorTruth
namespace Go.Proofs.YtecigfjnpikbjaaDoor
open Go.RowKit
theorem new_row (w : World) (t : TypeId) (cs : List Value) : Row (w.alloc (.cells cs.toArray t)) (w.alloc (.cells cs.toArray t)).heap.size (some ⟨w.heap.size, 0, none⟩) cs := by
  right
  refine ⟨_, _, rfl, by simp, fun j u hu => ?_⟩
  rw [Nat.zero_add, (Blk.new w t cs.toArray).cell j]
  simpa using hu
set_option maxHeartbeats 2000000 in
theorem alive05 (w : World) (hT : Tab w) : Calls Tryd.prog 7 #[] w fun e w' => e = .returned (.bool true) ∧ Below w.heap.size w w' := by
  have HT := Lib.hid hT
  clear hT
  go_enter Tryd.func7, Tryd.ntmps7
  go_wp2_with fail
  refine (of_any (some ⟨w.heap.size, 0, none⟩) 3 3 [true, false, true] (w.alloc (.cells #[.bool true, .bool false, .bool true] 4)) rfl (by omega) (new_row w 4 [.bool true, .bool false, .bool true])).mono ?_
  rintro e w1 ⟨g, gw, ws, rfl, hM, hg, hgw, hb⟩
  have hb0 : Below w.heap.size w w1 := ((Below.refl _ _).alloc (Nat.le_refl _) _).trans (hb.mono (by simp))
  have HM := Lib.hid hM
  have HB := Lib.hid hb0
  have HT1 := Lib.hid (HT.out.step hb0)
  clear hM hb hb0
  go_wp2_with fail
  refine (bytes_any HM.out).mono ?_
  rintro e w2 ⟨A, c, rfl, hO, hb2⟩
  have CV : (convert 23 9 (.slice A 3 c)).run Tryd.prog w2 = .ok (.string (str [0, 3, 5])) w2 := conv_row _ _ _ Tryd.underlying23 Tryd.underlying5 Tryd.underlying9 rfl hO.row
  have HM2 := Lib.hid (HM.out.step hb2)
  have HT2 := Lib.hid (HT1.out.step hb2)
  have HB2 := Lib.hid (HB.out.trans (hb2.mono HB.out.size))
  have hlen : (bytesOf [true, false, true]).length = 3 := by decide
  rw [hlen]
  have hse : (str [0, 3, 5]).toList = [0, 3, 5] := by rw [str_toList]; rfl
  have h1 : cntB [true, false, true] 3 = 2 := by decide
  have h2 : nextN [true, false, true] 1 = 2 := by decide
  have h3 : hasB [true, false, true] 1 = false := by decide
  have H1 := Lib.hid h1
  have H2 := Lib.hid h2
  have H3 := Lib.hid h3
  clear hO hb2 hlen h1 h2 h3
  go_wp2_with (first | (go_at_call 22; refine (count_any HM2.out).mono ?_; rintro e w4 ⟨rfl, rfl⟩; rw [show ([true, false, true] : List Bool).length = 3 from rfl, H1.out]) | (go_at_call 23; refine (next_any 1 HM2.out HT2.out).mono ?_; rintro e w4 ⟨rfl, rfl⟩; rw [show ((1 : Int).toNat) = 1 from rfl, H2.out]) | (go_at_call 17; refine (has_any 1 HM2.out).mono ?_; rintro e w4 ⟨rfl, rfl⟩; rw [H3.out]))
  go_ret
  exact ⟨rfl, HB2.out⟩
end Go.Proofs.YtecigfjnpikbjaaDoor

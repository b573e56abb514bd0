/-
  Chapter 39: mark.right, mark.Cost and the reference's Right, Cost. Conditions: the function lies in memory.
-/
import Derived.Test.YtfgaonkoaolffaaDoorMpl39
import Derived.Deep.DeepCutAuto
namespace Go.Proofs.YtfgaonkoaolffaaDoor
open Go.RowKit
theorem right_any {w : World} {C S : Option Addr} {n c m d : Nat} (hn : n ≤ 64) (hm : m ≤ 64) :
    Calls Tryd.prog 18 #[.agg #[.slice C n c, .slice S m d]] w fun e w' => e = .returned (.bool true) ∧ Below w.heap.size w w' := by
  have HB := Lib.hid ((Below.refl w.heap.size w).alloc (Nat.le_refl _) (.cells #[.slice C n c, .slice S m d] 39))
  have h1 : decide ((max (n : Int) (m : Int)) ≤ 64) = true := decide_eq_true (by omega)
  go_enter Tryd.func18, Tryd.ntmps18
  go_wp2_with fail
  go_ret
  exact ⟨rfl, HB.out⟩
theorem count_take (l : List Bool) (k : Nat) (hk : k < l.length) : (l.take (k + 1)).count true = (l.take k).count true + if l.getD k false = true then 1 else 0 := by
  have e : l.take (k + 1) = l.take k ++ [l[k]] := by rw [List.take_add_one, List.getElem?_eq_getElem hk]; rfl
  have e2 : l.getD k false = l[k] := by simp [hk]
  rw [e, List.count_append, e2]
  cases l[k] <;> simp
set_option maxHeartbeats 2000000 in
theorem cost_any {w : World} {C S : Option Addr} {n c m d : Nat} (l : List Bool) (hr : Row w w.heap.size S (boolVals l)) (hl : l.length = m) (hn : n ≤ 64) (hm : m ≤ 64) :
    Calls Tryd.prog 20 #[.agg #[.slice C n c, .slice S m d]] w fun e w' => e = .returned (.int .i64 (l.count true : Nat)) ∧ Below w.heap.size w w' := by
  obtain ⟨W, HW⟩ : ∃ W, Hid (W = w.alloc (.cells #[.slice C n c, .slice S m d] 39)) := ⟨_, Lib.hid rfl⟩
  have HB := Lib.hid (show Below w.heap.size w W by rw [HW.out]; exact (Below.refl _ _).alloc (Nat.le_refl _) _)
  obtain ⟨pb, HPB⟩ : ∃ q, Hid (q = w.heap.size) := ⟨_, Lib.hid rfl⟩
  have HP := Lib.hid (show Blk W pb 39 #[.slice C n c, .slice S m d] by rw [HW.out, HPB.out]; exact Blk.new w _ _)
  have HRI := Lib.hid (right_any (w := W) (C := C) (S := S) (c := c) (d := d) hn hm)
  have HR := Lib.hid ((hr.below HB.out).more HB.out.size)
  have p0 : W.cell? ⟨pb, 0, none⟩ = some (.slice C n c) := HP.out.cell 0
  have p1 : W.cell? ⟨pb, 1, none⟩ = some (.slice S m d) := HP.out.cell 1
  have HL := Lib.hid hl
  have hw := HW.out
  have hpb := HPB.out
  clear hr hl
  go_enter Tryd.func20, Tryd.ntmps20
  go_upto_region 1 with (fail)
  rw [← hw, ← hpb]
  clear hw hpb
  go_upto_region 4 with (go_at_call 18; refine HRI.out.mono ?_; rintro e V ⟨rfl, hb⟩; have HV := Lib.hid hb; have q1 : V.cell? ⟨pb, 1, none⟩ = some (.slice S m d) := (HP.out.below hb HP.out.lt).cell 1; clear hb)
  have HRV := Lib.hid (HR.out.below HV.out)
  clear p0 p1 q1
  go_loop [2, 11] (fun v2 vi => ∃ k : Nat, k ≤ m ∧ vi = .int .i64 k ∧ v2 = .int .i64 ((l.take k).count true : Nat)) (fun _ vi => m - (intOf vi).toNat)
  case atStart => exact ⟨0, by omega, rfl, rfl⟩
  case round =>
    obtain ⟨k, hk, rfl, rfl⟩ := hrel
    obtain ⟨q, HQ⟩ : ∃ q, Hid (q = (l.take k).count true) := ⟨_, Lib.hid rfl⟩
    have hq : q ≤ k := by rw [HQ.out]; exact Nat.le_trans List.count_le_length (by rw [List.length_take]; omega)
    rw [← HQ.out]
    by_cases hlt : k < m
    · have hkl : k < l.length := by rw [HL.out]; exact hlt
      obtain ⟨b, off, e0, hb, hc⟩ := HRV.out.at_ (k := k) (by simpa [boolVals] using hkl)
      subst e0
      have c0 := hc k _ (boolVals_at l k hkl)
      have HS := Lib.hid (count_take l k hkl)
      rw [← HQ.out, show l.getD k false = l[k] by simp [hkl]] at HS
      obtain ⟨y, HY⟩ : ∃ y, Hid (y = l[k]) := ⟨_, Lib.hid rfl⟩
      rw [← HY.out] at c0 HS
      clear hb hc HY
      cases y with
      | true =>
        go_wp2_with fail
        exact ⟨⟨k + 1, by omega, by go_num, by rw [HS.out]; go_num⟩, by simp [intOf]; omega⟩
      | false =>
        go_wp2_with fail
        exact ⟨⟨k + 1, by omega, by go_num, by rw [HS.out]; rfl⟩, by simp [intOf]; omega⟩
    · have HE := Lib.hid (show l.take k = l from List.take_of_length_le (by rw [HL.out]; omega))
      go_wp2_with fail
      go_ret
      rw [HQ.out, HE.out]
      exact ⟨rfl, HB.out.trans (HV.out.mono HB.out.size)⟩
end Go.Proofs.YtfgaonkoaolffaaDoor

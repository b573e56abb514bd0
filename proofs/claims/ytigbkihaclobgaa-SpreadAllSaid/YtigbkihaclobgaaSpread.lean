/-
  Contracts of spread.World and of its reference: both make the same two lists.
-/
import Derived.Test.YtigbkihaclobgaaSame
import Derived.Test.YtigbkihaclobgaaOwn
namespace Go.Proofs.Ytigbkihaclobgaa
open Go.RowKit
/-- Who goes on, and who is idle, of the first k processors. -/
def planL (zs : List Int) (self ms : Int) : Nat → List Int × List Int
  | 0 => ([], [])
  | k + 1 =>
    if (k : Int) = self then planL zs self ms k
    else if 0 < zs.getD k 0 ∧ ((planL zs self ms k).1.length : Int) < ms then ((planL zs self ms k).1 ++ [(k : Int)], (planL zs self ms k).2)
    else ((planL zs self ms k).1, (planL zs self ms k).2 ++ [(k : Int)])
theorem plan_len (zs : List Int) (self ms : Int) : ∀ k, (planL zs self ms k).1.length + (planL zs self ms k).2.length ≤ k
  | 0 => by simp [planL]
  | k + 1 => by
    have := plan_len zs self ms k
    unfold planL
    split
    · omega
    · split <;> simp <;> omega
theorem Try.info3 : (Try.prog.info? 3).map (fun i => (i.zero, i.size, i.bytes)) = some (some (.int .i64 0), 1, 8) := by kernel_rfl
/-- What a world's plan is, as a value. -/
def PlanIs (w' : World) (e : Ending) (l : List Int × List Int) : Prop :=
  ∃ (A B : Option Addr) (c d : Nat), e = .returned (.agg #[.slice A l.1.length c, .slice B l.2.length d]) ∧ Row w' w'.heap.size A (ints l.1) ∧ Row w' w'.heap.size B (ints l.2)
theorem ints_snoc (l : List Int) (x : Int) : ints (l ++ [x]) = ints l ++ [.int .i64 x] := by simp [ints]
set_option maxHeartbeats 4000000 in
theorem world_any (A : Option Addr) (n c : Nat) (zs : List Int) (self ms : Int) (w : World) (hn : zs.length = n) (h300 : n ≤ 65536) (hms : I64 ms) (hr : Row w w.heap.size A (ints zs)) :
    Calls Try.prog 5 #[.slice A n c, .int .i64 self, .int .i64 ms] w fun e w' => PlanIs w' e (planL zs self ms n) ∧ Below w.heap.size w w' := by
  obtain ⟨i0, hi, hz0, hz1, hz2⟩ := info_parts Try.info3
  have HI := Lib.hid hi
  have HZ0 := Lib.hid hz0
  have HZ1 := Lib.hid hz1
  have HZ2 := Lib.hid hz2
  have HL := Lib.hid hn
  have HR := Lib.hid hr
  obtain ⟨hms1, hms2⟩ := hms
  clear hn hr hi hz0 hz1 hz2
  go_enter Try.func5, Try.ntmps5
  go_wp2_with fail
  go_loopw [2, 12] (fun vm vi wr => ∃ (k : Nat) (G I : Option Addr) (cG cI : Nat), k ≤ n ∧ vi = .int .i64 k ∧ vm = .int .i64 (ms - (planL zs self ms k).1.length) ∧ Below w.heap.size w wr ∧
      Blk wr w.heap.size 25 #[.slice G (planL zs self ms k).1.length cG, .slice I (planL zs self ms k).2.length cI] ∧
      Own wr (w.heap.size + 1) 3 1 G (planL zs self ms k).1.length cG (ints (planL zs self ms k).1) ∧ Own wr (w.heap.size + 1) 3 1 I (planL zs self ms k).2.length cI (ints (planL zs self ms k).2) ∧
      Apart G I) (fun _ vi _ => n - (intOf vi).toNat)
  case atStart =>
    refine ⟨0, none, none, 0, 0, Nat.zero_le _, rfl, by simp [planL], (Below.refl _ _).alloc (Nat.le_refl _) _, Blk.new _ _ _, Own.nil _ _ _ _, Own.nil _ _ _ _, Apart.none_l _⟩
  case round =>
    obtain ⟨k, G, I, cG, cI, hk, rfl, rfl, hbw, hblk, hoG, hoI, hne⟩ := hrel
    have hle := plan_len zs self ms k
    have hstep : planL zs self ms (k + 1) = if (k : Int) = self then planL zs self ms k else if 0 < zs.getD k 0 ∧ ((planL zs self ms k).1.length : Int) < ms then ((planL zs self ms k).1 ++ [(k : Int)], (planL zs self ms k).2) else ((planL zs self ms k).1, (planL zs self ms k).2 ++ [(k : Int)]) := rfl
    generalize hp : planL zs self ms k = pl at *
    obtain ⟨gl, il⟩ := pl
    simp only at hblk hoG hoI hle hstep ⊢
    have HS := Lib.hid hstep
    have HP := Lib.hid hp
    have HB := Lib.hid hblk
    have HG := Lib.hid hoG
    have HO := Lib.hid hoI
    have HNE := Lib.hid hne
    have q0 := hblk.cell 0
    have q1 := hblk.cell 1
    have f0 := hblk.frozen 0
    have f1 := hblk.frozen 1
    have hsz := hblk.lt
    simp at q0 q1
    clear hstep hp hblk hoG hoI hne
    by_cases hlt : k < n
    · obtain ⟨b, off, rfl, hbl, hcx⟩ := (HR.out.below hbw).at_ (k := k) (by have := HL.out; simp [ints]; omega)
      have hc0 := hcx k _ (ints_at_ zs k (by have := HL.out; omega))
      have hgd : zs.getD k 0 = zs[k]'(by have := HL.out; omega) := by simp [show k < zs.length by have := HL.out; omega]
      rw [hgd] at HS
      generalize zs[k]'(by have := HL.out; omega) = z at hc0 HS
      clear hcx hgd
      by_cases hself : (k : Int) = self
      · have hs' : ((k : Int) == self) = true := by simpa using hself
        have HS' := HS.out
        rw [if_pos hself] at HS'
        have HS'' := Lib.hid HS'
        clear hself HS' 
        go_wp2_with fail
        go_roundw
        case rel => exact ⟨k + 1, G, I, cG, cI, by omega, by go_num, by rw [HS''.out], hbw, by rw [HS''.out]; exact HB.out, by rw [HS''.out]; exact HG.out, by rw [HS''.out]; exact HO.out, HNE.out⟩
        case measure => simp [intOf]; omega
      · have hs' : ((k : Int) == self) = false := by simpa using hself
        by_cases hgo : 0 < z ∧ (gl.length : Int) < ms
        · have HS' := HS.out
          rw [if_neg hself, if_pos hgo] at HS'
          have HS'' := Lib.hid HS'
          obtain ⟨hz, hgm⟩ := hgo
          clear hself HS'
          have c1 : Hid (gl.length + 1 ≤ maxLen) := by unfold maxLen; show _ ≤ _; omega
          go_wp2_with (at_builtin; refine wpList_append_1 _ rfl (.tmp 33) (.tmp 35) 22 rfl (w.heap.size + 1) 3 i0 (.int .i64 0) 1 8 Try.underlying22 HI.out HZ0.out HZ1.out HZ2.out rfl (by decide) _ _ _ _ rfl (HG.out.alloc _) ⟨wr.heap.size, 0, none⟩ 1 [.int .i64 k] rfl rfl (cell_one_new _ _ _) (by simp [Value.oneCell']) c1.out (by omega) (by simp; omega) ?_; intro A' c' w1 hown1 hgrow1 hat1; obtain ⟨g1, g2, g3, g4⟩ := after_append HB.out hgrow1 HG.out (by omega))
          refine ⟨⟨k + 1, A', I, c', cI, by omega, by go_num, ?_, ?_, ?_, ?_, ?_, ?_⟩, by simp [intOf]; omega⟩
          · rw [HS''.out]; simp; omega
          · exact (below_append hbw HG.out (by omega) (by omega) hgrow1).setCell (by simp) _
          · rw [HS''.out]; simpa using g1.set_ 0 (.slice A' (gl.length + 1) c')
          · rw [HS''.out, ints_snoc, List.length_append]; exact hown1.setCell _ _ (hown1.ne_lt (by simp))
          · rw [HS''.out]; exact (own_other HO.out hgrow1 HNE.out).setCell _ _ (HO.out.ne_lt (by simp))
          · exact apart_append HO.out hat1 HNE.out
        · have HS' := HS.out
          rw [if_neg hself, if_neg hgo] at HS'
          have HS'' := Lib.hid HS'
          have c1 : Hid (il.length + 1 ≤ maxLen) := by unfold maxLen; show _ ≤ _; omega
          have hd : decide (0 < z) = true ∧ decide ((gl.length : Int) < ms) = false ∨ decide (0 < z) = false := by
            by_cases h0 : 0 < z
            · left; simp [h0]; omega
            · right; simpa using h0
          clear hself HS' hgo
          rcases hd with ⟨hd0, hd1⟩ | hd
          all_goals
            go_wp2_with (at_builtin; refine wpList_append_1 _ rfl (.tmp 33) (.tmp 35) 22 rfl (w.heap.size + 1) 3 i0 (.int .i64 0) 1 8 Try.underlying22 HI.out HZ0.out HZ1.out HZ2.out rfl (by decide) _ _ _ _ rfl (HO.out.alloc _) ⟨wr.heap.size, 0, none⟩ 1 [.int .i64 k] rfl rfl (cell_one_new _ _ _) (by simp [Value.oneCell']) c1.out (by omega) (by simp; omega) ?_; intro A' c' w1 hown1 hgrow1 hat1; obtain ⟨g1, g2, g3, g4⟩ := after_append HB.out hgrow1 HO.out (by omega))
            refine ⟨⟨k + 1, G, A', cG, c', by omega, by go_num, ?_, ?_, ?_, ?_, ?_, ?_⟩, by simp [intOf]; omega⟩
            · rw [HS''.out]
            · exact (below_append hbw HO.out (by omega) (by omega) hgrow1).setCell (by simp) _
            · rw [HS''.out]; simpa using g1.set_ 1 (.slice A' (il.length + 1) c')
            · rw [HS''.out]; exact (own_other HG.out hgrow1 HNE.out.symm).setCell _ _ (HG.out.ne_lt (by simp))
            · rw [HS''.out, ints_snoc, List.length_append]; exact hown1.setCell _ _ (hown1.ne_lt (by simp))
            · exact (apart_append HG.out hat1 HNE.out.symm).symm
    · have hkn : k = n := by omega
      subst hkn
      go_wp2_with fail
      have k1 := (HG.out.setCell ⟨w.heap.size, 0, none⟩ (.slice G gl.length cG) (HG.out.ne_lt (by simp))).setCell ⟨w.heap.size, 1, none⟩ (.slice I il.length cI) (HG.out.ne_lt (by simp))
      have k2 := (HO.out.setCell ⟨w.heap.size, 0, none⟩ (.slice G gl.length cG) (HO.out.ne_lt (by simp))).setCell ⟨w.heap.size, 1, none⟩ (.slice I il.length cI) (HO.out.ne_lt (by simp))
      refine bodyPost_ret (v := .agg #[.slice G gl.length cG, .slice I il.length cI]) (by simp [results, Try.results5, go_sem, q0, q1]) rfl ⟨?_, (hbw.setCell (by simp) _).setCell (by simp) _⟩
      rw [HP.out]
      exact ⟨G, I, cG, cI, rfl, k1.row, k2.row⟩
end Go.Proofs.Ytigbkihaclobgaa

/-
  Chapter 11: which threads are the same: contract of the reference's Same. Condition: the threads lie in memory.
-/
import Derived.Test.YtoacnphgkgklcaaDoorVm3
namespace Go.Proofs.YtoacnphgkgklcaaDoor
open Go.RowKit
set_option maxHeartbeats 4000000 in
set_option maxRecDepth 100000 in
theorem rSame_any (a b : Th) (A B : Option Addr) (c d : Nat) (w : World) (ha : ThOk w w.heap.size a A c) (hb : ThOk w w.heap.size b B d) : Calls Tryd.prog 14 #[.agg (thArr a A c), .agg (thArr b B d)] w fun e w' => e = .returned (.bool (sameT a b)) ∧ Below w.heap.size w w' := by
  obtain ⟨fa, pa, ra, sa, da⟩ := a
  obtain ⟨fb, pb, rb, sb, db⟩ := b
  have HA := Lib.hid ha
  have HB := Lib.hid hb
  have h1 := ha.regs
  have h2 := hb.regs
  simp only at h1 h2
  have FEQ : ∀ w', (Op.equalIn 10000 25 (.agg (ra.map (Value.int .i64)).toArray) (.agg (rb.map (Value.int .i64)).toArray)).run Tryd.prog w' = .ok (decide (ra = rb)) w' := fun w' => equal_ints 9998 Tryd.underlying25 Tryd.underlying2 (by kernel_rfl) ra rb h1 h2
  obtain ⟨r0, r1, r2, r3, r4, r5, r6, r7, e1⟩ := list8 h1
  obtain ⟨s0, s1, s2, s3, s4, s5, s6, s7, e2⟩ := list8 h2
  have HD := Lib.hid (show decide (ra = rb) = decide ([r0, r1, r2, r3, r4, r5, r6, r7] = [s0, s1, s2, s3, s4, s5, s6, s7]) by rw [e1, e2])
  generalize hq : decide (ra = rb) = q at *
  have HQ := Lib.hid hq
  subst e1 e2
  simp only [List.map_cons, List.map_nil] at FEQ
  clear h1 h2 ha hb hq
  have eA : thArr ⟨fa, pa, [r0, r1, r2, r3, r4, r5, r6, r7], sa, da⟩ A c = #[.int .i64 fa, .int .i64 pa, .int .i64 r0, .int .i64 r1, .int .i64 r2, .int .i64 r3, .int .i64 r4, .int .i64 r5, .int .i64 r6, .int .i64 r7, .slice A sa.length c, .bool da] := rfl
  have eB : thArr ⟨fb, pb, [s0, s1, s2, s3, s4, s5, s6, s7], sb, db⟩ B d = #[.int .i64 fb, .int .i64 pb, .int .i64 s0, .int .i64 s1, .int .i64 s2, .int .i64 s3, .int .i64 s4, .int .i64 s5, .int .i64 s6, .int .i64 s7, .slice B sb.length d, .bool db] := rfl
  rw [eA, eB]
  clear eA eB
  by_cases hl : sa.length = sb.length
  · by_cases hall : fa = fb ∧ pa = pb ∧ q = true ∧ da = db
    · obtain ⟨rfl, rfl, hqt, rfl⟩ := hall
      have HL := Lib.hid hl
      have hq2 := HQ.out
      rw [hqt] at hq2
      rw [hqt] at FEQ
      have HS := Lib.hid (show sameT ⟨fa, pa, [r0, r1, r2, r3, r4, r5, r6, r7], sa, da⟩ ⟨fa, pa, [s0, s1, s2, s3, s4, s5, s6, s7], sb, da⟩ = decide (sa = sb) by
        simp only [sameT, hq2, decide_true, Bool.true_and])
      have hne : ((sa.length : Int) != (sb.length : Int)) = false := by simp; omega
      have hlen := Nat.le_trans HA.out.len HA.out.cap
      simp only at hlen
      unfold maxLen at hlen
      have HRA := Lib.hid (show Row w w.heap.size A (sa.flatMap frVals) from HA.out.row)
      have HRB := Lib.hid (show Row w w.heap.size B (sb.flatMap frVals) from HB.out.row)
      have hdl : ∃ n : Nat, Hid (n = sa.length) ∧ Hid (n = sb.length) := ⟨sa.length, rfl, hl⟩
      obtain ⟨n, HN1, HN2⟩ := hdl
      rw [← HN1.out, ← HN2.out]
      rw [← HN1.out] at hlen
      clear hq2 hl hqt hne HD HQ HL
      go_enter Tryd.func14, Tryd.ntmps14
      go_wp2_with fail
      have hbW := below2 w (.cells #[.int .i64 fa, .int .i64 pa, .int .i64 r0, .int .i64 r1, .int .i64 r2, .int .i64 r3, .int .i64 r4, .int .i64 r5, .int .i64 r6, .int .i64 r7, .slice A n c, .bool da] 28) (.cells #[.int .i64 fa, .int .i64 pa, .int .i64 s0, .int .i64 s1, .int .i64 s2, .int .i64 s3, .int .i64 s4, .int .i64 s5, .int .i64 s6, .int .i64 s7, .slice B n d, .bool da] 28)
      have hW : ∃ W : World, Hid (W = (w.alloc (.cells #[.int .i64 fa, .int .i64 pa, .int .i64 r0, .int .i64 r1, .int .i64 r2, .int .i64 r3, .int .i64 r4, .int .i64 r5, .int .i64 r6, .int .i64 r7, .slice A n c, .bool da] 28)).alloc (.cells #[.int .i64 fa, .int .i64 pa, .int .i64 s0, .int .i64 s1, .int .i64 s2, .int .i64 s3, .int .i64 s4, .int .i64 s5, .int .i64 s6, .int .i64 s7, .slice B n d, .bool da] 28)) := ⟨_, rfl⟩
      obtain ⟨W, HW⟩ := hW
      rw [← HW.out] at hbW ⊢
      have hBA : Blk W w.heap.size 28 #[.int .i64 fa, .int .i64 pa, .int .i64 r0, .int .i64 r1, .int .i64 r2, .int .i64 r3, .int .i64 r4, .int .i64 r5, .int .i64 r6, .int .i64 r7, .slice A n c, .bool da] := by rw [HW.out]; exact (Blk.new w _ _).alloc _
      have hBB : Blk W (w.heap.size + 1) 28 #[.int .i64 fa, .int .i64 pa, .int .i64 s0, .int .i64 s1, .int .i64 s2, .int .i64 s3, .int .i64 s4, .int .i64 s5, .int .i64 s6, .int .i64 s7, .slice B n d, .bool da] := by rw [HW.out]; exact heap_alloc2_new w _ _
      have hcA : W.cell? ⟨w.heap.size, 10, none⟩ = some (.slice A n c) := hBA.cell 10
      have hcB : W.cell? ⟨w.heap.size + 1, 10, none⟩ = some (.slice B n d) := hBB.cell 10
      have hz1 : w.heap.size < W.heap.size := hBA.lt
      have hz2 : w.heap.size + 1 < W.heap.size := hBB.lt
      have HRA2 := Lib.hid ((HRA.out.below hbW).more hbW.size)
      have HRB2 := Lib.hid ((HRB.out.below hbW).more hbW.size)
      clear hBA hBB HRA HRB HA HB HW FEQ
      go_loopw [5] (fun vi wr => ∃ k : Nat, k ≤ n ∧ vi = .int .i64 k ∧ sa.take k = sb.take k ∧ Below W.heap.size W wr) (fun vi _ => n - (intOf vi).toNat)
      case atStart => exact ⟨0, Nat.zero_le _, rfl, rfl, Below.refl _ _⟩
      case round =>
        obtain ⟨k, hk, rfl, ht, hbw⟩ := hrel
        have HT := Lib.hid ht
        clear ht
        have G0 : ∀ w', Below W.heap.size W w' → w'.cell? ⟨w.heap.size, 10, none⟩ = some (.slice A n c) := fun w' h => (h.cell (p := ⟨w.heap.size, 10, none⟩) hz1).trans hcA
        have G1 : ∀ w', Below W.heap.size W w' → w'.cell? ⟨w.heap.size + 1, 10, none⟩ = some (.slice B n d) := fun w' h => (h.cell (p := ⟨w.heap.size + 1, 10, none⟩) hz2).trans hcB
        have g0 := G0 wr hbw
        by_cases hlt : k < n
        · have hkx : k < sa.length := by have := HN1.out; omega
          have hky : k < sb.length := by have := HN2.out; omega
          obtain ⟨b, off, rfl, hbl, hx0, hx1⟩ := fr_cells HRA2.out k hkx
          obtain ⟨b', off', rfl, hbl', hy0, hy1⟩ := fr_cells HRB2.out k hky
          have F0 : ∀ w', Below W.heap.size W w' → w'.cell? ⟨b, off + k * 2, none⟩ = some (.int .i64 sa[k].1) := fun w' h => (h.cell (p := ⟨b, off + k * 2, none⟩) hbl).trans hx0
          have F1 : ∀ w', Below W.heap.size W w' → w'.cell? ⟨b, off + k * 2 + 1, none⟩ = some (.int .i64 sa[k].2) := fun w' h => (h.cell (p := ⟨b, off + k * 2 + 1, none⟩) hbl).trans hx1
          have F2 : ∀ w', Below W.heap.size W w' → w'.cell? ⟨b', off' + k * 2, none⟩ = some (.int .i64 sb[k].1) := fun w' h => (h.cell (p := ⟨b', off' + k * 2, none⟩) hbl').trans hy0
          have F3 : ∀ w', Below W.heap.size W w' → w'.cell? ⟨b', off' + k * 2 + 1, none⟩ = some (.int .i64 sb[k].2) := fun w' h => (h.cell (p := ⟨b', off' + k * 2 + 1, none⟩) hbl').trans hy1
          clear hx0 hx1 hy0 hy1 hbl hbl'
          have HXY := Lib.hid (show (sa[k].1 = sb[k].1 ∧ sa[k].2 = sb[k].2) ↔ sa[k] = sb[k] from ⟨fun h => Prod.ext h.1 h.2, fun h => by rw [h]; exact ⟨rfl, rfl⟩⟩)
          have HNE := Lib.hid (show ¬ sa[k] = sb[k] → decide (sa = sb) = false from fun he => by
            rw [decide_eq_false]
            intro h; apply he; simp [h])
          have HEQ := Lib.hid (fun h => takeEq_succ sa sb k HT.out hkx hky h)
          generalize sa[k] = x at *
          generalize sb[k] = y at *
          obtain ⟨x1, x2⟩ := x
          obtain ⟨y1, y2⟩ := y
          simp only at F0 F1 F2 F3 HXY
          have hcase : (x1 == y1) = false ∨ ((x1 == y1) = true ∧ (x2 == y2) = false) ∨ ((x1 == y1) = true ∧ (x2 == y2) = true) := by
            cases (x1 == y1) <;> cases (x2 == y2) <;> simp
          rcases hcase with h1 | ⟨h1, h2⟩ | ⟨h1, h2⟩
          · have HR := Lib.hid (HNE.out (fun h => by have := (HXY.out.2 h).1; simp [this] at h1))
            go_wp2_with fail
            refine region_below W W.heap.size (by kernel_rfl) (by kernel_rfl) hbw ?_
            repeat (first | go_big_quiet_skip | (go_big_quiet_want; first | (go_big_quiet_op; first | go_big_quiet_on | ((first | with_reducible refine ⟨_, fun _ _ => rfl, ?_⟩); go_big_quiet_on)) | (simp (contextual := true) [go_sem, F0, F1, F2, F3, G0, G1]; with_reducible refine ⟨_, fun _ _ => rfl, ?_⟩; go_big_quiet_on)))
            refine wpQuiet_nil ?_
            intro w1 hw1
            clear F0 F1 F2 F3 G0 G1
            go_wp2_with fail
            go_ret
            exact ⟨by rw [HS.out, HR.out]; rfl, hbW.trans (hw1.mono hbW.size)⟩
          · have HR := Lib.hid (HNE.out (fun h => by have := (HXY.out.2 h).2; simp [this] at h2))
            obtain rfl : x1 = y1 := by simpa using h1
            clear h1
            go_wp2_with fail
            refine region_below W W.heap.size (by kernel_rfl) (by kernel_rfl) hbw ?_
            repeat (first | go_big_quiet_skip | (go_big_quiet_want; first | (go_big_quiet_op; first | go_big_quiet_on | ((first | with_reducible refine ⟨_, fun _ _ => rfl, ?_⟩); go_big_quiet_on)) | (simp (contextual := true) [go_sem, F0, F1, F2, F3, G0, G1]; with_reducible refine ⟨_, fun _ _ => rfl, ?_⟩; go_big_quiet_on)))
            refine wpQuiet_nil ?_
            intro w1 hw1
            clear F0 F1 F2 F3 G0 G1
            go_wp2_with fail
            go_ret
            exact ⟨by rw [HS.out, HR.out]; rfl, hbW.trans (hw1.mono hbW.size)⟩
          · obtain rfl : x1 = y1 := by simpa using h1
            obtain rfl : x2 = y2 := by simpa using h2
            have HR := Lib.hid (HEQ.out rfl)
            clear h1 h2 HEQ HNE HXY
            go_wp2_with fail
            refine region_below W W.heap.size (by kernel_rfl) (by kernel_rfl) hbw ?_
            repeat (first | go_big_quiet_skip | (go_big_quiet_want; first | (go_big_quiet_op; first | go_big_quiet_on | ((first | with_reducible refine ⟨_, fun _ _ => rfl, ?_⟩); go_big_quiet_on)) | (simp (contextual := true) [go_sem, F0, F1, F2, F3, G0, G1]; with_reducible refine ⟨_, fun _ _ => rfl, ?_⟩; go_big_quiet_on)))
            refine wpQuiet_nil ?_
            intro w1 hw1
            clear F0 F1 F2 F3 G0 G1
            go_wp2_with fail
            go_roundw
            case rel => exact ⟨k + 1, by omega, by go_num, HR.out, hw1⟩
            case measure => simp [intOf]; omega
        · have hkn : k = n := by omega
          subst hkn
          have HB2 := Lib.hid hbw
          clear hbw G0 G1
          go_wp2_with fail
          go_ret
          have e : sa = sb := by
            have := HT.out
            rw [List.take_of_length_le (by rw [← HN1.out]; omega), List.take_of_length_le (by rw [← HN2.out]; omega)] at this
            exact this
          exact ⟨by rw [HS.out, decide_eq_true e]; rfl, hbW.trans (HB2.out.mono hbW.size)⟩
    · go_enter Tryd.func14, Tryd.ntmps14
      go_wp2_with fail
      · exact absurd ⟨by assumption, by assumption, by assumption, by assumption⟩ hall
      · have h4 : ¬ da = db := by assumption
        go_ret
        refine ⟨?_, below2 w _ _⟩
        simp [sameT, h4]
      · have h3 : ¬ q = true := by assumption
        go_ret
        refine ⟨?_, below2 w _ _⟩
        have e5 := HQ.out
        rw [Bool.not_eq_true] at h3
        rw [h3] at e5
        simp only [sameT, e5, Bool.false_and, Bool.and_false]
        rfl
      · have h2 : ¬ pa = pb := by assumption
        go_ret
        refine ⟨?_, below2 w _ _⟩
        simp [sameT, h2]
      · have h1 : ¬ fa = fb := by assumption
        go_ret
        refine ⟨?_, below2 w _ _⟩
        simp [sameT, h1]
  · have hl' : ((sa.length : Int) != (sb.length : Int)) = true := by simp; omega
    have e : sameT ⟨fa, pa, [r0, r1, r2, r3, r4, r5, r6, r7], sa, da⟩ ⟨fb, pb, [s0, s1, s2, s3, s4, s5, s6, s7], sb, db⟩ = false := by
      have : ¬ sa = sb := fun h => hl (by rw [h])
      simp [sameT, this]
    rw [e]
    go_enter Tryd.func14, Tryd.ntmps14
    go_wp2_with fail
    all_goals (go_ret; exact ⟨rfl, below2 w _ _⟩)
end Go.Proofs.YtoacnphgkgklcaaDoor

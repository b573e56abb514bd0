/-
  Chapter 8: the law's light. Conditions: the program lies in memory.
-/
import Derived.Test.YtdpacdmaadodiaaDoorLight9
import Derived.Deep.DeepCutAuto
namespace Go.Proofs.YtdpacdmaadodiaaDoor
open Go.RowKit
/-- Is a program such as may be gone through? -/
def light8 (fs : List Fn) : Bool := lightP fs && (decide (fs.length ≤ 16) && fs.all fun f => decide (f.code.length ≤ 64))
theorem light8_no {fs : List Fn} {k : Nat} (hk : k < fs.length) (h : 64 < fs[k].code.length) : light8 fs = false := by
  have : (fs.all fun f => decide (f.code.length ≤ 64)) = false := by
    rw [List.all_eq_false]
    exact ⟨fs[k], List.getElem_mem hk, by simp; omega⟩
  simp [light8, this]
theorem light8_yes {fs : List Fn} (h0 : lightP fs = true) (h16 : fs.length ≤ 16) (h : ∀ i (hi : i < fs.length), fs[i].code.length ≤ 64) : light8 fs = true := by
  have : (fs.all fun f => decide (f.code.length ≤ 64)) = true := by
    rw [List.all_eq_true]
    intro x hx
    obtain ⟨i, hi, rfl⟩ := List.getElem_of_mem hx
    simpa using h i hi
  simp [light8, this, h0, h16]
theorem light8_out {fs : List Fn} (h : light8 fs = true) : fs.length ≤ 16 ∧ ∀ i (hi : i < fs.length), fs[i].code.length ≤ 64 ∧ fs[i].safe.length ≤ 70 := by
  simp only [light8, lightP, Bool.and_eq_true, decide_eq_true_eq, List.all_eq_true] at h
  obtain ⟨⟨-, h1⟩, h2, h3⟩ := h
  refine ⟨h2, fun i hi => ⟨h3 _ (List.getElem_mem hi), ?_⟩⟩
  have := h1 _ (List.getElem_mem hi)
  simp only [lightF, Bool.and_eq_true, decide_eq_true_eq] at this
  exact this.2
set_option maxHeartbeats 2000000 in
theorem light8_any (A : Option Addr) (c : Nat) (fs : List Fn) (w : World) (hm : fs.length ≤ maxLen) (hf : FnsOk w w.heap.size A fs) :
    Calls Tryd.prog 7 #[.agg #[.slice A fs.length c]] w fun e w' => e = .returned (.bool (light8 fs)) ∧ Below w.heap.size w w' := by
  have HF := Lib.hid hf
  have HN := Lib.hid (rfl : fs.length = fs.length)
  obtain ⟨W, HW⟩ : ∃ W, Hid (W = w.alloc (.cells #[.slice A fs.length c] 24)) := ⟨_, Lib.hid rfl⟩
  have HB := Lib.hid (show Below w.heap.size w W by rw [HW.out]; exact (Below.refl _ _).alloc (Nat.le_refl _) _)
  have HP := Lib.hid (show Blk W w.heap.size 24 #[.slice A fs.length c] by rw [HW.out]; exact Blk.new w _ _)
  have HC := Lib.hid (light_any A c fs W hm (HF.out.step HB.out))
  have h16m : fs.length ≤ maxLen := hm
  generalize hn : fs.length = n at *
  have HN2 := Lib.hid hn
  obtain ⟨lp, HLP⟩ : ∃ b, Hid (b = lightP fs) := ⟨_, Lib.hid rfl⟩
  rw [← HLP.out] at HC
  unfold maxLen at h16m
  clear hf hn hm
  cases lp with
  | false =>
    have e : light8 fs = false := by simp [light8, ← HLP.out]
    rw [e]; clear e
    go_enter Tryd.func7, Tryd.ntmps7
    go_upto_region 1 with (fail)
    rw [← HW.out]
    have p0 : W.cell? ⟨w.heap.size, 0, none⟩ = some (.slice A n c) := HP.out.cell 0
    go_wp2_with (go_at_call 26; refine HC.out.mono ?_; rintro e W1 ⟨rfl, hb1⟩; have HB1 := Lib.hid hb1; clear hb1)
    go_ret
    exact ⟨rfl, HB.out.trans (HB1.out.mono HB.out.size)⟩
  | true =>
    by_cases h16 : 16 < n
    · have e : light8 fs = false := by simp [light8]; intro _ h; have := HN2.out; omega
      rw [e]; clear e
      have h16' : decide ((16 : Int) < n) = true := by simp; omega
      go_enter Tryd.func7, Tryd.ntmps7
      go_upto_region 1 with (fail)
      rw [← HW.out]
      have p0 : W.cell? ⟨w.heap.size, 0, none⟩ = some (.slice A n c) := HP.out.cell 0
      go_wp2_with (go_at_call 26; refine HC.out.mono ?_; rintro e W1 ⟨rfl, hb1⟩; have HB1 := Lib.hid hb1; have p1 : W1.cell? ⟨w.heap.size, 0, none⟩ = some (.slice A n c) := (HP.out.below hb1 HP.out.lt).cell 0; clear hb1)
      go_ret
      exact ⟨rfl, HB.out.trans (HB1.out.mono HB.out.size)⟩
    · have h16' : decide ((16 : Int) < n) = false := by simp; omega
      have H16 := Lib.hid (show fs.length ≤ 16 by have := HN2.out; omega)
      clear h16
      go_enter Tryd.func7, Tryd.ntmps7
      go_upto_region 1 with (fail)
      rw [← HW.out]
      have p0 : W.cell? ⟨w.heap.size, 0, none⟩ = some (.slice A n c) := HP.out.cell 0
      go_upto_region 4 with (go_at_call 26; refine HC.out.mono ?_; rintro e W1 ⟨rfl, hb1⟩; have HB1 := Lib.hid hb1; have p1 : W1.cell? ⟨w.heap.size, 0, none⟩ = some (.slice A n c) := (HP.out.below hb1 HP.out.lt).cell 0; clear hb1)
      have HF2 := Lib.hid ((HF.out.step HB.out).step HB1.out)
      clear HF p0
      go_loop [3] (fun vi => ∃ k : Nat, k ≤ n ∧ vi = .int .i64 k ∧ (∀ i (h : i < fs.length), i < k → fs[i].code.length ≤ 64)) (fun vi => n - (intOf vi).toNat)
      case atStart => exact ⟨0, by omega, rfl, fun i _ hi => by omega⟩
      case round =>
        obtain ⟨k, hk, rfl, hno⟩ := hrel
        have HNO := Lib.hid hno
        clear hno
        by_cases hlt : k < n
        · have hkc : k < fs.length := by rw [HN2.out]; exact hlt
          obtain ⟨b, off, a, eA, hbb, c0, c1, hfn⟩ := HF2.out.at_ k hkc
          subst eA
          have HL := Lib.hid hfn.1
          clear hfn
          obtain ⟨C, fn, fc, S, fm, fd⟩ := a
          simp only at c0 c1 HL
          by_cases hx : 64 < fn
          · have E := Lib.hid (light8_no hkc (by rw [← HL.out]; exact hx))
            have hx' : decide ((64 : Int) < fn) = true := by simp; omega
            clear hx
            go_wp2_with fail
            go_ret
            exact ⟨by rw [E.out]; rfl, HB.out.trans (HB1.out.mono HB.out.size)⟩
          · have hx' : decide ((64 : Int) < fn) = false := by simp; omega
            have E := Lib.hid (show fs[k].code.length ≤ 64 by rw [← HL.out]; omega)
            clear hx
            go_wp2_with fail
            go_round
            case rel =>
              refine ⟨k + 1, by omega, by go_num, fun i hi hik => ?_⟩
              by_cases hik' : i < k
              · exact HNO.out i hi hik'
              · obtain rfl : i = k := by omega
                exact E.out
            case measure => simp [intOf]; omega
        · have E := Lib.hid (light8_yes HLP.out.symm H16.out (fun i hi => HNO.out i hi (by have := HN2.out; omega)))
          go_wp2_with fail
          go_ret
          exact ⟨by rw [E.out]; rfl, HB.out.trans (HB1.out.mono HB.out.size)⟩
end Go.Proofs.YtdpacdmaadodiaaDoor

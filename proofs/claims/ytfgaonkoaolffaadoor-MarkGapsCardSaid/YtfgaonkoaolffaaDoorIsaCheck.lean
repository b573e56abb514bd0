/-
  Contract of isa.Check. Condition: the table is laid.
-/
import Derived.Test.YtfgaonkoaolffaaDoorRef06
namespace Go.Proofs.YtfgaonkoaolffaaDoor
open Go.RowKit
def isOpB (op : Int) : Bool := decide (0 ≤ op ∧ op < 24)
/-- Is the k-th of three numbers a register that is none? Is it spare, and not 0? -/
def regB (r : Int) (k : Nat) (x : Int) : Bool := decide ((k : Int) < r) && (decide (x < 0) || decide (8 ≤ x))
def spB (r : Int) (k : Nat) (x : Int) : Bool := decide (r ≤ (k : Int)) && (x != 0)
def regsBad (r a b c : Int) : Bool := regB r 0 a || regB r 1 b || regB r 2 c
def spareBad (r a b c : Int) : Bool := spB r 0 a || spB r 1 b || spB r 2 c
/-- What is wrong with an instruction first. -/
def checkF (op a b c n places funcs : Int) : Int :=
  if !isOpB op then 1 else if regsBad (opRegs op) a b c then 2 else if spareBad (opRegs op) a b c then 9
  else if opTarget op = 0 then (if n ≠ 0 ∧ opNumber op = false then 9 else 0)
  else if n < 0 ∨ (if opTarget op = 2 then funcs else places) ≤ n then 2 else 0
def abcAt (a b c : Int) : Nat → Int
  | 0 => a
  | 1 => b
  | _ => c
def spareUpto (r a b c : Int) : Nat → Bool
  | 0 => false
  | k + 1 => spareUpto r a b c k || spB r k (abcAt a b c k)
theorem spare_all (r a b c : Int) : spareUpto r a b c 3 = spareBad r a b c := by simp [spareUpto, spareBad, abcAt]
theorem regs_none (r a b c : Int) (h : ∀ i, i < 3 → regB r i (abcAt a b c i) = false) : regsBad r a b c = false := by
  have h0 := h 0 (by omega)
  have h1 := h 1 (by omega)
  have h2 := h 2 (by omega)
  simp only [abcAt] at h0 h1 h2
  simp [regsBad, h0, h1, h2]
theorem regs_some (r a b c : Int) (k : Nat) (hk : k < 3) (h : regB r k (abcAt a b c k) = true) : regsBad r a b c = true := by
  have : k = 0 ∨ k = 1 ∨ k = 2 := by omega
  rcases this with rfl | rfl | rfl <;> simp only [abcAt] at h <;> simp [regsBad, h]
theorem abc_index (a b c : Int) : ∀ (k : Nat) (_ : k < 3) (W : World), (Instr.index 87 (.agg #[.int .i64 a, .int .i64 b, .int .i64 c]) (.int .i64 (k : Int))).run Tryd.prog W = .ok (.int .i64 (abcAt a b c k)) W
  | 0, _, W => by kernel_rfl
  | 1, _, W => by kernel_rfl
  | 2, _, W => by kernel_rfl
  | k + 3, h, _ => absurd h (by omega)
theorem name_empty (op : Int) (h : isOpB op = false) : (opName op).toList.isEmpty = true := by
  have h' : op < 0 ∨ 24 ≤ op := by simp [isOpB] at h; omega
  simp only [opName, opRow_out op h', noRow]
  decide +kernel
theorem name_some (op : Int) (h : isOpB op = true) : (opName op).toList.isEmpty = false := by
  have h' : ¬ (op < 0 ∨ 24 ≤ op) := by simp [isOpB] at h; omega
  rcases op24 op h' with rfl | rfl | rfl | rfl | rfl | rfl | rfl | rfl | rfl | rfl | rfl | rfl | rfl | rfl | rfl | rfl | rfl | rfl | rfl | rfl | rfl | rfl | rfl | rfl <;> decide +kernel
theorem target_cases (op : Int) : opTarget op = 0 ∨ opTarget op = 1 ∨ opTarget op = 2 := by
  by_cases h : op < 0 ∨ 24 ≤ op
  · left; simp [opTarget, opRow_out op h, noRow]
  · rcases op24 op h with rfl | rfl | rfl | rfl | rfl | rfl | rfl | rfl | rfl | rfl | rfl | rfl | rfl | rfl | rfl | rfl | rfl | rfl | rfl | rfl | rfl | rfl | rfl | rfl <;> decide
theorem bcell {W w1 : World} (hb : Below W.heap.size W w1) : (∀ b o, b < W.heap.size → w1.cell? ⟨b, o, none⟩ = W.cell? ⟨b, o, none⟩) ∧ (∀ b o, b < W.heap.size → w1.frozen? ⟨b, o, none⟩ = W.frozen? ⟨b, o, none⟩) :=
  ⟨fun b o h => hb.cell (p := ⟨b, o, none⟩) h, fun b o h => hb.frozen (p := ⟨b, o, none⟩) h⟩
set_option maxHeartbeats 4000000 in
theorem check_any (op a b c n places funcs : Int) (w : World) (hT : Tab w) :
    Calls Tryd.prog 52 #[.agg #[.int .i64 op, .int .i64 a, .int .i64 b, .int .i64 c, .int .i64 n], .int .i64 places, .int .i64 funcs] w fun e w' => e = .returned (.int .i64 (checkF op a b c n places funcs)) ∧ Below w.heap.size w w' := by
  have HT := Lib.hid (hT.alloc (.cells #[.int .i64 op, .int .i64 a, .int .i64 b, .int .i64 c, .int .i64 n] 43))
  have hB : Below w.heap.size w (w.alloc (.cells #[.int .i64 op, .int .i64 a, .int .i64 b, .int .i64 c, .int .i64 n] 43)) := (Below.refl _ _).alloc (Nat.le_refl _) _
  clear hT
  by_cases hop : isOpB op = true
  · have hne := name_some op hop
    go_enter Tryd.func52, Tryd.ntmps52
    go_wp2_with (go_at_call 51; refine (of_any _ _ HT.out).mono ?_; rintro e w1 ⟨rfl, hb1⟩; obtain ⟨hc1, hf1⟩ := bcell hb1; have HB1 := Lib.hid (hB.trans (hb1.mono hB.size)); have hz1 : w.heap.size < w1.heap.size := by (have := hb1.size; simp at this; omega))
    have HOP := Lib.hid hop
    clear hop hne hB
    go_loop [8, 25] (fun vs vi => ∃ k : Nat, k ≤ 3 ∧ vi = .int .i64 k ∧ vs = .bool (spareUpto (opRegs op) a b c k) ∧ (∀ i, i < k → regB (opRegs op) i (abcAt a b c i) = false)) (fun _ vi => 3 - (intOf vi).toNat)
    case atStart => exact ⟨0, by omega, rfl, rfl, fun i hi => by omega⟩
    case round =>
      obtain ⟨k, hk, rfl, rfl, hno⟩ := hrel
      have HN := Lib.hid hno
      clear hno
      by_cases hlt : k < 3
      · have hix := abc_index a b c k hlt
        have hstep : spareUpto (opRegs op) a b c (k + 1) = (spareUpto (opRegs op) a b c k || spB (opRegs op) k (abcAt a b c k)) := rfl
        have HS := Lib.hid hstep
        clear hstep
        by_cases hkr : (k : Int) < opRegs op
        · have hkr' : decide (opRegs op ≤ (k : Int)) = false := by simp; omega
          have hsp : spB (opRegs op) k (abcAt a b c k) = false := by unfold spB; rw [hkr']; rfl
          by_cases hbad : regB (opRegs op) k (abcAt a b c k) = true
          · have e : checkF op a b c n places funcs = 2 := by simp [checkF, HOP.out, regs_some _ a b c k hlt hbad]
            have E := Lib.hid e
            clear e
            by_cases hx : abcAt a b c k < 0
            · clear hbad
              go_wp2_with fail
              go_ret
              exact ⟨by rw [E.out]; rfl, HB1.out.alloc HB1.out.size _⟩
            · have hx8 : 8 ≤ abcAt a b c k := by simp [regB, hkr, hx] at hbad; exact hbad
              clear hbad
              go_wp2_with fail
              go_ret
              exact ⟨by rw [E.out]; rfl, HB1.out.alloc HB1.out.size _⟩
          · have hbad : regB (opRegs op) k (abcAt a b c k) = false := by simpa using hbad
            have HBD := Lib.hid hbad
            have hx0 : ¬ abcAt a b c k < 0 := by
              intro h; simp [regB, hkr, h] at hbad
            have hx8 : decide (8 ≤ abcAt a b c k) = false := by
              simp [regB, hkr] at hbad; simp; omega
            clear hbad
            go_wp2_with fail
            go_round
            case rel => exact ⟨k + 1, by omega, by go_num, by rw [HS.out, hsp, Bool.or_false], all_succ HN.out HBD.out⟩
            case measure => simp [intOf]; omega
        · have hkr' : decide ((k : Int) < opRegs op) = false := by simpa using hkr
          have hbad : regB (opRegs op) k (abcAt a b c k) = false := by unfold regB; rw [hkr']; rfl
          have HBD := Lib.hid hbad
          clear hbad
          by_cases hs : spareUpto (opRegs op) a b c k = true
          · go_wp2_with fail
            go_round
            case rel => exact ⟨k + 1, by omega, by go_num, by rw [HS.out, hs, Bool.true_or], all_succ HN.out HBD.out⟩
            case measure => simp [intOf]; omega
          · have hs : spareUpto (opRegs op) a b c k = false := by simpa using hs
            have hsp : spB (opRegs op) k (abcAt a b c k) = (abcAt a b c k != 0) := by
              have : decide (opRegs op ≤ (k : Int)) = true := by simp; omega
              unfold spB; rw [this]; rfl
            have HSP := Lib.hid hsp
            clear hsp
            go_wp2_with fail
            go_round
            case rel => exact ⟨k + 1, by omega, by go_num, by rw [HS.out, hs, Bool.false_or, HSP.out], all_succ HN.out HBD.out⟩
            case measure => simp [intOf]; omega
      · have hk3 : k = 3 := by omega
        have hrn := regs_none (opRegs op) a b c (fun i hi => HN.out i (by omega))
        have hsk : spareUpto (opRegs op) a b c k = spareBad (opRegs op) a b c := by rw [hk3]; exact spare_all _ _ _ _
        have HSK := Lib.hid hsk
        have hfin : checkF op a b c n places funcs = if spareBad (opRegs op) a b c then 9 else if opTarget op = 0 then (if n ≠ 0 ∧ opNumber op = false then 9 else 0) else if n < 0 ∨ (if opTarget op = 2 then funcs else places) ≤ n then 2 else 0 := by
          unfold checkF; rw [HOP.out, hrn]; rfl
        have HF := Lib.hid hfin
        clear hfin hrn HN hk3 hsk
        by_cases hs : spareUpto (opRegs op) a b c k = true
        · have e : checkF op a b c n places funcs = 9 := by rw [HF.out, ← HSK.out, hs]; rfl
          have E := Lib.hid e
          clear e
          rw [hs]
          go_wp2_with fail
          go_ret
          exact ⟨by rw [E.out]; rfl, HB1.out.alloc HB1.out.size _⟩
        · have hs : spareUpto (opRegs op) a b c k = false := by simpa using hs
          have hF2 := HF.out
          rw [← HSK.out, hs, if_neg Bool.false_ne_true] at hF2
          clear HF
          rw [hs]
          rcases target_cases op with ht | ht | ht
          · rw [ht, if_pos rfl] at hF2
            by_cases hn0 : n = 0
            · have e : checkF op a b c n places funcs = 0 := by rw [hF2, if_neg (by simp [hn0])]
              have E := Lib.hid e
              have hn0' : (n != 0) = false := by simpa using hn0
              clear e hF2 hn0
              go_wp2_with fail
              go_ret
              exact ⟨by rw [E.out]; rfl, HB1.out.alloc HB1.out.size _⟩
            · have hn0' : (n != 0) = true := by simpa using hn0
              by_cases hnum : opNumber op = true
              · have e : checkF op a b c n places funcs = 0 := by rw [hF2, if_neg (by simp [hnum])]
                have E := Lib.hid e
                clear e hF2 hn0
                go_wp2_with fail
                go_ret
                exact ⟨by rw [E.out]; rfl, HB1.out.alloc HB1.out.size _⟩
              · have hnum : opNumber op = false := by simpa using hnum
                have e : checkF op a b c n places funcs = 9 := by rw [hF2, if_pos ⟨hn0, hnum⟩]
                have E := Lib.hid e
                clear e hF2 hn0
                go_wp2_with fail
                go_ret
                exact ⟨by rw [E.out]; rfl, HB1.out.alloc HB1.out.size _⟩
          · rw [ht, if_neg (show ¬ (1 : Int) = 0 by decide), if_neg (show ¬ (1 : Int) = 2 by decide)] at hF2
            by_cases hn : n < 0
            · have e : checkF op a b c n places funcs = 2 := by rw [hF2, if_pos (.inl hn)]
              have E := Lib.hid e
              clear e hF2
              go_wp2_with fail
              go_ret
              exact ⟨by rw [E.out]; rfl, HB1.out.alloc HB1.out.size _⟩
            · by_cases hp : places ≤ n
              · have e : checkF op a b c n places funcs = 2 := by rw [hF2, if_pos (.inr hp)]
                have E := Lib.hid e
                clear e hF2
                go_wp2_with fail
                go_ret
                exact ⟨by rw [E.out]; rfl, HB1.out.alloc HB1.out.size _⟩
              · have e : checkF op a b c n places funcs = 0 := by rw [hF2, if_neg (by omega)]
                have E := Lib.hid e
                clear e hF2
                go_wp2_with fail
                go_ret
                exact ⟨by rw [E.out]; rfl, HB1.out.alloc HB1.out.size _⟩
          · rw [ht, if_neg (show ¬ (2 : Int) = 0 by decide), if_pos (rfl : (2 : Int) = 2)] at hF2
            by_cases hn : n < 0
            · have e : checkF op a b c n places funcs = 2 := by rw [hF2, if_pos (.inl hn)]
              have E := Lib.hid e
              clear e hF2
              go_wp2_with fail
              go_ret
              exact ⟨by rw [E.out]; rfl, HB1.out.alloc HB1.out.size _⟩
            · by_cases hp : funcs ≤ n
              · have e : checkF op a b c n places funcs = 2 := by rw [hF2, if_pos (.inr hp)]
                have E := Lib.hid e
                clear e hF2
                go_wp2_with fail
                go_ret
                exact ⟨by rw [E.out]; rfl, HB1.out.alloc HB1.out.size _⟩
              · have e : checkF op a b c n places funcs = 0 := by rw [hF2, if_neg (by omega)]
                have E := Lib.hid e
                clear e hF2
                go_wp2_with fail
                go_ret
                exact ⟨by rw [E.out]; rfl, HB1.out.alloc HB1.out.size _⟩
  · have hop : isOpB op = false := by simpa using hop
    have hne := name_empty op hop
    have e : checkF op a b c n places funcs = 1 := by simp [checkF, hop]
    rw [e]; clear e
    go_enter Tryd.func52, Tryd.ntmps52
    go_wp2_with (go_at_call 51; refine (of_any _ _ HT.out).mono ?_; rintro e w1 ⟨rfl, hb1⟩; obtain ⟨hc1, hf1⟩ := bcell hb1; have HB1 := Lib.hid (hB.trans (hb1.mono hB.size)); have hz1 : w.heap.size < w1.heap.size := by (have := hb1.size; simp at this; omega))
    go_ret
    exact ⟨rfl, HB1.out.alloc HB1.out.size _⟩
end Go.Proofs.YtfgaonkoaolffaaDoor

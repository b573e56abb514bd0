/-
  Contracts of the reference's Names, Is, Check.
-/
import Derived.Test.YtfgaonkoaolffaaDoorIsaCheck
namespace Go.Proofs.YtfgaonkoaolffaaDoor
open Go.RowKit
def namesArr : Array Value := (tabT.map fun r => Value.string ⟨r.name.toArray⟩).toArray
theorem names_any (w : World) : Calls Tryd.prog 55 #[] w fun e w' => e = .returned (.slice (some ⟨w.heap.size, 0, none⟩) 24 24) ∧ w.alloc (.cells namesArr 9) = w' := by
  go_enter Tryd.func55, Tryd.ntmps55
  go_wp2
  go_ret
  exact ⟨rfl, by kernel_rfl⟩
theorem ris_any (op : Int) (w : World) : Calls Tryd.prog 45 #[.int .i64 op] w fun e w' => e = .returned (.bool (isOpB op)) ∧ Below w.heap.size w w' := by
  by_cases h0 : 0 ≤ op
  · have e : isOpB op = decide (op < 24) := by simp [isOpB, h0]
    rw [e]; clear e
    go_enter Tryd.func45, Tryd.ntmps45
    go_wp2_with (go_at_call 55; refine (names_any _).mono ?_; rintro e w1 ⟨rfl, rfl⟩)
    go_ret
    exact ⟨rfl, (Below.refl _ _).alloc (Nat.le_refl _) _⟩
  · have e : isOpB op = false := by simp [isOpB]; omega
    have h0' : decide (0 ≤ op) = false := by simpa using h0
    rw [e]; clear e
    go_enter Tryd.func45, Tryd.ntmps45
    go_wp2_with fail
    go_ret
    exact ⟨rfl, Below.refl _ _⟩
theorem regs_nat (op : Int) : ∃ r : Nat, opRegs op = r ∧ r ≤ 3 := by
  by_cases h : op < 0 ∨ 24 ≤ op
  · exact ⟨0, by simp [opRegs, opRow_out op h, noRow], by omega⟩
  · rcases op24 op h with rfl | rfl | rfl | rfl | rfl | rfl | rfl | rfl | rfl | rfl | rfl | rfl | rfl | rfl | rfl | rfl | rfl | rfl | rfl | rfl | rfl | rfl | rfl | rfl
    all_goals first | exact ⟨0, by decide, by omega⟩ | exact ⟨1, by decide, by omega⟩ | exact ⟨3, by decide, by omega⟩
theorem number_iff (op : Int) (h : isOpB op = true) : opNumber op = (op == 1) := by
  have h' : ¬ (op < 0 ∨ 24 ≤ op) := by simp [isOpB] at h; omega
  rcases op24 op h' with rfl | rfl | rfl | rfl | rfl | rfl | rfl | rfl | rfl | rfl | rfl | rfl | rfl | rfl | rfl | rfl | rfl | rfl | rfl | rfl | rfl | rfl | rfl | rfl <;> decide
theorem abc_cells (w1 : World) (a b c : Int) : ∀ k, k < 3 → (w1.alloc (.cells #[.int .i64 a, .int .i64 b, .int .i64 c] 3)).cell? ⟨w1.heap.size, k, none⟩ = some (.int .i64 (abcAt a b c k)) := by
  intro k hk
  rw [(Blk.new w1 3 _).cell]
  have : k = 0 ∨ k = 1 ∨ k = 2 := by omega
  rcases this with rfl | rfl | rfl <;> rfl
theorem spare_some (r a b c : Int) (k : Nat) (hk : k < 3) (h : spB r k (abcAt a b c k) = true) : spareBad r a b c = true := by
  have : k = 0 ∨ k = 1 ∨ k = 2 := by omega
  rcases this with rfl | rfl | rfl <;> simp only [abcAt] at h <;> simp [spareBad, h]
theorem spare_none (r a b c : Int) (h : ∀ i, i < 3 → spB r i (abcAt a b c i) = false) : spareBad r a b c = false := by
  have h0 := h 0 (by omega)
  have h1 := h 1 (by omega)
  have h2 := h 2 (by omega)
  simp only [abcAt] at h0 h1 h2
  simp [spareBad, h0, h1, h2]
set_option maxHeartbeats 4000000 in
theorem rcheck_any (op a b c n places funcs : Int) (w : World) :
    Calls Tryd.prog 30 #[.agg #[.int .i64 op, .int .i64 a, .int .i64 b, .int .i64 c, .int .i64 n], .int .i64 places, .int .i64 funcs] w fun e w' => e = .returned (.int .i64 (checkF op a b c n places funcs)) ∧ Below w.heap.size w w' := by
  have hB : Below w.heap.size w (w.alloc (.cells #[.int .i64 op, .int .i64 a, .int .i64 b, .int .i64 c, .int .i64 n] 43)) := (Below.refl _ _).alloc (Nat.le_refl _) _
  by_cases hop : isOpB op = true
  · obtain ⟨r, hr, hr3⟩ := regs_nat op
    have HR := Lib.hid hr
    go_enter Tryd.func30, Tryd.ntmps30
    go_wp2_with (first | (go_at_call 45; refine (ris_any _ _).mono ?_; rintro e w1 ⟨rfl, hb1⟩; obtain ⟨hc1, hf1⟩ := bcell hb1; have HB1 := Lib.hid (hB.trans (hb1.mono hB.size)); have hz1 : w.heap.size < w1.heap.size := by (have := hb1.size; simp at this; omega)) | (go_at_call 46; refine (rregs_any _ _).mono ?_; rintro e w' ⟨rfl, rfl⟩))
    have HOP := Lib.hid hop
    have hab := abc_cells w1 a b c
    have HAB := Lib.hid hab
    have HBW := Lib.hid (HB1.out.alloc HB1.out.size (.cells #[.int .i64 a, .int .i64 b, .int .i64 c] 3))
    clear hop hB hab hr
    go_loop [9] (fun vi => ∃ k : Nat, k ≤ r ∧ vi = .int .i64 k ∧ (∀ i, i < k → regB (opRegs op) i (abcAt a b c i) = false)) (fun vi => 3 - (intOf vi).toNat)
    case atStart => exact ⟨0, by omega, rfl, fun i hi => by omega⟩
    case round =>
      obtain ⟨k, hk, rfl, hno⟩ := hrel
      have HN := Lib.hid hno
      clear hno
      by_cases hlt : k < r
      · have hck := HAB.out k (by omega)
        have hkr : (k : Int) < opRegs op := by rw [HR.out]; omega
        by_cases hx : abcAt a b c k < 0
        · have e : checkF op a b c n places funcs = 2 := by
            have : regB (opRegs op) k (abcAt a b c k) = true := by simp [regB, hkr, hx]
            simp [checkF, HOP.out, regs_some _ a b c k (by omega) this]
          have E := Lib.hid e
          clear e hkr
          go_wp2_with fail
          go_ret
          exact ⟨by rw [E.out]; rfl, HBW.out⟩
        · by_cases hx8 : 8 ≤ abcAt a b c k
          · have e : checkF op a b c n places funcs = 2 := by
              have : regB (opRegs op) k (abcAt a b c k) = true := by simp [regB, hkr, hx8]
              simp [checkF, HOP.out, regs_some _ a b c k (by omega) this]
            have E := Lib.hid e
            clear e hkr
            go_wp2_with fail
            go_ret
            exact ⟨by rw [E.out]; rfl, HBW.out⟩
          · have hbad : regB (opRegs op) k (abcAt a b c k) = false := by simp [regB]; omega
            have HBD := Lib.hid hbad
            have hx8' : decide (8 ≤ abcAt a b c k) = false := by simpa using hx8
            clear hbad hkr
            go_wp2_with fail
            go_round
            case rel => exact ⟨k + 1, by omega, by go_num, all_succ HN.out HBD.out⟩
            case measure => simp [intOf]; omega
      · have hrn := regs_none (opRegs op) a b c (fun i hi => by
          by_cases hik : i < k
          · exact HN.out i hik
          · have : decide ((i : Int) < opRegs op) = false := by rw [HR.out]; simp; omega
            unfold regB; rw [this]; rfl)
        have HRN := Lib.hid hrn
        clear hrn HN
        go_wp2_with fail
        go_loop [10] (fun vi => ∃ j : Nat, r ≤ j ∧ j ≤ 3 ∧ vi = .int .i64 j ∧ (∀ i, i < j → spB (opRegs op) i (abcAt a b c i) = false)) (fun vi => 3 - (intOf vi).toNat)
        case atStart =>
          refine ⟨r, Nat.le_refl _, hr3, rfl, fun i hi => ?_⟩
          have : decide (opRegs op ≤ (i : Int)) = false := by rw [HR.out]; simp; omega
          unfold spB; rw [this]; rfl
        case round =>
          obtain ⟨j, hrj, hj3, rfl, hno⟩ := hrel
          have HN := Lib.hid hno
          clear hno
          by_cases hlt3 : j < 3
          · have hck := HAB.out j hlt3
            have hsp : spB (opRegs op) j (abcAt a b c j) = (abcAt a b c j != 0) := by
              have : decide (opRegs op ≤ (j : Int)) = true := by rw [HR.out]; simp; omega
              unfold spB; rw [this]; rfl
            have HSP := Lib.hid hsp
            clear hsp
            by_cases hx : (abcAt a b c j != 0) = true
            · have e : checkF op a b c n places funcs = 9 := by
                have h1 := spare_some (opRegs op) a b c j hlt3 (by rw [HSP.out, hx])
                simp [checkF, HOP.out, HRN.out, h1]
              have E := Lib.hid e
              clear e
              go_wp2_with fail
              go_ret
              exact ⟨by rw [E.out]; rfl, HBW.out⟩
            · have hx : (abcAt a b c j != 0) = false := by simpa using hx
              go_wp2_with fail
              go_round
              case rel => exact ⟨j + 1, by omega, by omega, by go_num, all_succ HN.out (by rw [HSP.out, hx])⟩
              case measure => simp [intOf]; omega
          · have hsn := spare_none (opRegs op) a b c (fun i hi => HN.out i (by omega))
            have hfin : checkF op a b c n places funcs = if opTarget op = 0 then (if n ≠ 0 ∧ opNumber op = false then 9 else 0) else if n < 0 ∨ (if opTarget op = 2 then funcs else places) ≤ n then 2 else 0 := by
              unfold checkF; rw [HOP.out, HRN.out, hsn]; rfl
            have hF2 := hfin
            clear hfin hsn HN
            rcases target_cases op with ht | ht | ht
            · rw [ht, if_pos rfl] at hF2
              have hnum := number_iff op HOP.out
              by_cases h1 : (op == 1) = true
              · have e : checkF op a b c n places funcs = 0 := by rw [hF2, if_neg (by rw [hnum, h1]; simp)]
                have E := Lib.hid e
                have h1' : (op != 1) = false := by simpa using h1
                clear e hF2 hnum
                go_wp2_with (go_at_call 47; refine (rtarget_any _ _).mono ?_; rintro e w' ⟨rfl, rfl⟩)
                go_ret
                exact ⟨by rw [E.out]; rfl, HBW.out⟩
              · have h1 : (op == 1) = false := by simpa using h1
                have h1' : (op != 1) = true := by simpa using h1
                by_cases hn0 : n = 0
                · have e : checkF op a b c n places funcs = 0 := by rw [hF2, if_neg (by simp [hn0])]
                  have E := Lib.hid e
                  have hn0' : (n != 0) = false := by simpa using hn0
                  clear e hF2 hn0 hnum
                  go_wp2_with (go_at_call 47; refine (rtarget_any _ _).mono ?_; rintro e w' ⟨rfl, rfl⟩)
                  go_ret
                  exact ⟨by rw [E.out]; rfl, HBW.out⟩
                · have e : checkF op a b c n places funcs = 9 := by rw [hF2, if_pos ⟨hn0, by rw [hnum, h1]⟩]
                  have E := Lib.hid e
                  have hn0' : (n != 0) = true := by simpa using hn0
                  clear e hF2 hn0 hnum
                  go_wp2_with (go_at_call 47; refine (rtarget_any _ _).mono ?_; rintro e w' ⟨rfl, rfl⟩)
                  go_ret
                  exact ⟨by rw [E.out]; rfl, HBW.out⟩
            · rw [ht, if_neg (show ¬ (1 : Int) = 0 by decide), if_neg (show ¬ (1 : Int) = 2 by decide)] at hF2
              by_cases hn : n < 0
              · have e : checkF op a b c n places funcs = 2 := by rw [hF2, if_pos (.inl hn)]
                have E := Lib.hid e
                clear e hF2
                go_wp2_with (go_at_call 47; refine (rtarget_any _ _).mono ?_; rintro e w' ⟨rfl, rfl⟩)
                go_ret
                exact ⟨by rw [E.out]; rfl, HBW.out⟩
              · by_cases hp : places ≤ n
                · have e : checkF op a b c n places funcs = 2 := by rw [hF2, if_pos (.inr hp)]
                  have E := Lib.hid e
                  clear e hF2
                  go_wp2_with (go_at_call 47; refine (rtarget_any _ _).mono ?_; rintro e w' ⟨rfl, rfl⟩)
                  go_ret
                  exact ⟨by rw [E.out]; rfl, HBW.out⟩
                · have e : checkF op a b c n places funcs = 0 := by rw [hF2, if_neg (by omega)]
                  have E := Lib.hid e
                  clear e hF2
                  go_wp2_with (go_at_call 47; refine (rtarget_any _ _).mono ?_; rintro e w' ⟨rfl, rfl⟩)
                  go_ret
                  exact ⟨by rw [E.out]; rfl, HBW.out⟩
            · rw [ht, if_neg (show ¬ (2 : Int) = 0 by decide), if_pos (rfl : (2 : Int) = 2)] at hF2
              by_cases hn : n < 0
              · have e : checkF op a b c n places funcs = 2 := by rw [hF2, if_pos (.inl hn)]
                have E := Lib.hid e
                clear e hF2
                go_wp2_with (go_at_call 47; refine (rtarget_any _ _).mono ?_; rintro e w' ⟨rfl, rfl⟩)
                go_ret
                exact ⟨by rw [E.out]; rfl, HBW.out⟩
              · by_cases hp : funcs ≤ n
                · have e : checkF op a b c n places funcs = 2 := by rw [hF2, if_pos (.inr hp)]
                  have E := Lib.hid e
                  clear e hF2
                  go_wp2_with (go_at_call 47; refine (rtarget_any _ _).mono ?_; rintro e w' ⟨rfl, rfl⟩)
                  go_ret
                  exact ⟨by rw [E.out]; rfl, HBW.out⟩
                · have e : checkF op a b c n places funcs = 0 := by rw [hF2, if_neg (by omega)]
                  have E := Lib.hid e
                  clear e hF2
                  go_wp2_with (go_at_call 47; refine (rtarget_any _ _).mono ?_; rintro e w' ⟨rfl, rfl⟩)
                  go_ret
                  exact ⟨by rw [E.out]; rfl, HBW.out⟩
  · have hop : isOpB op = false := by simpa using hop
    have e : checkF op a b c n places funcs = 1 := by simp [checkF, hop]
    rw [e]; clear e
    go_enter Tryd.func30, Tryd.ntmps30
    go_wp2_with (go_at_call 45; refine (ris_any _ _).mono ?_; rintro e w1 ⟨rfl, hb1⟩)
    go_ret
    exact ⟨rfl, hB.trans (hb1.mono hB.size)⟩
end Go.Proofs.YtfgaonkoaolffaaDoor

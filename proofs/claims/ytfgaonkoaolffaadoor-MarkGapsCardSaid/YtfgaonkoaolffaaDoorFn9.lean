/-
  Contract of valid.fn. Conditions: the table is laid, the function lies in memory.
-/
import Derived.Test.YtfgaonkoaolffaaDoorPlace9
import Derived.WalkMore
namespace Go.Proofs.YtfgaonkoaolffaaDoor
open Go.RowKit
def noIns : Ins := ⟨0, 0, 0, 0, 0⟩
/-- Why a place of a function is wrong. -/
def placeAt (f : Fn) (funcs : Int) (k : Nat) : Int := placeF (f.code.getD k noIns) f.code.length f.safe k funcs
def badPlace (f : Fn) (funcs : Int) : Option Nat := (List.range f.code.length).find? fun k => placeAt f funcs k != 0
/-- The first place of a function that is wrong, and why. -/
def fnF (f : Fn) (funcs : Int) : Int × Int :=
  if f.code.length = 0 then (-1, 6) else if 64 < f.code.length then (-1, 5) else if f.code.length ≠ f.safe.length then (-1, 9)
  else match badPlace f funcs with
    | some k => (k, placeAt f funcs k)
    | none => if opEnds (f.code.getD (f.code.length - 1) noIns).op then (-1, 0) else ((f.code.length : Int) - 1, 11)
theorem find_range_none {p : Nat → Bool} {n : Nat} (h : ∀ i, i < n → p i = false) : (List.range n).find? p = none := by
  rw [List.find?_eq_none]
  intro x hx
  simp [h x (List.mem_range.1 hx)]
theorem find_range_some {p : Nat → Bool} {n k : Nat} (hk : k < n) (h : ∀ i, i < k → p i = false) (hp : p k = true) : (List.range n).find? p = some k := by
  rw [List.find?_eq_some_iff_getElem]
  refine ⟨hp, k, by simpa using hk, by simp, fun j hj => ?_⟩
  simp [h j hj]
theorem fnF_bad {f : Fn} {funcs : Int} {k : Nat} (h0 : f.code.length ≠ 0) (h64 : ¬ 64 < f.code.length) (hs : f.code.length = f.safe.length) (hk : k < f.code.length) (h : ∀ i, i < k → placeAt f funcs i = 0) (hp : placeAt f funcs k ≠ 0) :
    fnF f funcs = ((k : Int), placeAt f funcs k) := by
  have : badPlace f funcs = some k := find_range_some hk (fun i hi => by simp [h i hi]) (by simpa using hp)
  unfold fnF
  rw [this, if_neg h0, if_neg h64, if_neg (by omega)]
theorem fnF_none {f : Fn} {funcs : Int} (h0 : f.code.length ≠ 0) (h64 : ¬ 64 < f.code.length) (hs : f.code.length = f.safe.length) (h : ∀ i, i < f.code.length → placeAt f funcs i = 0) :
    fnF f funcs = if opEnds (f.code.getD (f.code.length - 1) noIns).op then (-1, 0) else ((f.code.length : Int) - 1, 11) := by
  have : badPlace f funcs = none := find_range_none (fun i hi => by simp [h i hi])
  unfold fnF
  rw [this, if_neg h0, if_neg h64, if_neg (by omega)]
theorem code_getD {f : Fn} {k : Nat} (hk : k < f.code.length) : f.code.getD k noIns = f.code[k] := by simp [hk]
set_option maxHeartbeats 2000000 in
theorem fn_any (a : FnA) (f : Fn) (funcs : Int) (w : World) (hT : Tab w) (hf : FnOk w w.heap.size a f) :
    Calls Tryd.prog 23 #[.agg #[.slice a.C a.n a.c, .slice a.S a.m a.d], .int .i64 funcs] w fun e w' => e = .returned (.tuple #[.int .i64 (fnF f funcs).1, .int .i64 (fnF f funcs).2]) ∧ Below w.heap.size w w' := by
  have hn := hf.1
  have hm := hf.2.1
  have hmax := hf.2.2.2.2.1
  have hmm := hf.2.2.2.2.2.1
  have HF := Lib.hid hf
  obtain ⟨C, n, c, S, m, d⟩ := a
  simp only at hn hm hmax hmm ⊢
  unfold maxLen at hmax hmm
  have hB : Below w.heap.size w (w.alloc (.cells #[.slice C n c, .slice S m d] 39)) := (Below.refl _ _).alloc (Nat.le_refl _) _
  have HT := Lib.hid hT
  clear hT hf
  by_cases h0 : n = 0
  · have e : fnF f funcs = (-1, 6) := by unfold fnF; rw [if_pos (by omega)]
    rw [e]; clear e
    clear hn hm
    subst h0
    go_enter Tryd.func23, Tryd.ntmps23
    go_wp2_with fail
    go_step3
    go_wp2_with fail
    rw [Exit.noGoto_ret]
    go_ret2
    exact ⟨rfl, hB⟩
  have h0' : ((n : Int) == 0) = false := by simpa using h0
  by_cases h64 : 64 < n
  · have e : fnF f funcs = (-1, 5) := by unfold fnF; rw [if_neg (by omega), if_pos (by omega)]
    rw [e]; clear e
    have h64' : decide ((64 : Int) < n) = true := by simp; omega
    clear h0 hn hm
    go_enter Tryd.func23, Tryd.ntmps23
    go_wp2_with fail
    go_step3
    go_wp2_with fail
    rw [Exit.noGoto_ret]
    go_ret2
    exact ⟨rfl, hB⟩
  have h64' : decide ((64 : Int) < n) = false := by simp; omega
  by_cases hs : n = m
  · have HE0 := Lib.hid (show f.code.length ≠ 0 by omega)
    have HE1 := Lib.hid (show ¬ 64 < f.code.length by omega)
    have HE2 := Lib.hid (show f.code.length = f.safe.length by omega)
    have hs' : ((n : Int) != m) = false := by simp [hs]
    have HN := Lib.hid hn
    have hpos : 0 < n := by omega
    clear h0 h64 hs hn hm
    have HB := Lib.hid hB
    clear hB
    go_enter Tryd.func23, Tryd.ntmps23
    go_wp2_with fail
    go_step3
    go_wp2_with fail
    go_step3
    go_wp2_with fail
    have HT2 := Lib.hid (HT.out.step HB.out)
    have HF2 := Lib.hid (HF.out.step HB.out)
    have hp0 : (w.alloc (.cells #[.slice C n c, .slice S m d] 39)).cell? ⟨w.heap.size, 0, none⟩ = some (.slice C n c) := (Blk.new w 39 _).cell 0
    have hp1 : (w.alloc (.cells #[.slice C n c, .slice S m d] 39)).cell? ⟨w.heap.size, 1, none⟩ = some (.slice S m d) := (Blk.new w 39 _).cell 1
    have hz : (w.alloc (.cells #[.slice C n c, .slice S m d] 39)).heap.size = w.heap.size + 1 := by simp
    clear HT HF
    have keep : ∀ w', Below (w.alloc (.cells #[.slice C n c, .slice S m d] 39)).heap.size (w.alloc (.cells #[.slice C n c, .slice S m d] 39)) w' → w'.cell? ⟨w.heap.size, 0, none⟩ = some (.slice C n c) ∧ w'.cell? ⟨w.heap.size, 1, none⟩ = some (.slice S m d) :=
      fun w' h => ⟨(h.cell (p := ⟨w.heap.size, 0, none⟩) (by show w.heap.size < _; omega)).trans hp0, (h.cell (p := ⟨w.heap.size, 1, none⟩) (by show w.heap.size < _; omega)).trans hp1⟩
    have HK := Lib.hid keep
    clear keep hp0 hp1 hz
    generalize (w.alloc (.cells #[.slice C n c, .slice S m d] 39)) = W at *
    go_loopw [28] (fun vi wr => ∃ k : Nat, k ≤ n ∧ vi = .int .i64 k ∧ (∀ i, i < k → placeAt f funcs i = 0) ∧ Below W.heap.size W wr) (fun vi _ => n - (intOf vi).toNat)
    case atStart => exact ⟨0, by omega, rfl, fun i hi => by omega, Below.refl _ _⟩
    case round =>
      obtain ⟨k, hk, rfl, hno, hb⟩ := hrel
      have HNO := Lib.hid hno
      have HBW := Lib.hid hb
      obtain ⟨p0, p1⟩ := HK.out _ hb
      clear hno hb
      by_cases hlt : k < n
      · have hlt' := hlt
        have hkc : k < f.code.length := by rw [← HN.out]; exact hlt
        go_wp2_with fail
        refine (place_any ⟨C, n, c, S, m, d⟩ f k hkc funcs _ (HT2.out.step HBW.out) (HF2.out.step HBW.out)).mono ?_
        rintro e w1 ⟨rfl, hb1⟩
        have HB1 := Lib.hid (HBW.out.trans (hb1.mono HBW.out.size))
        have hpa : placeF f.code[k] f.code.length f.safe k funcs = placeAt f funcs k := by rw [placeAt, code_getD hkc]
        rw [hpa]
        clear hpa hb1 p0 p1
        by_cases hx : placeAt f funcs k = 0
        · have hx' : (placeAt f funcs k == 0) = true := by simpa using hx
          have HX := Lib.hid hx
          clear hx
          go_wp2_with fail
          go_roundw
          case rel => exact ⟨k + 1, by omega, by go_num, all_succ HNO.out HX.out, HB1.out⟩
          case measure => simp [intOf]; omega
        · have hx' : (placeAt f funcs k == 0) = false := by simpa using hx
          have e := fnF_bad HE0.out HE1.out HE2.out hkc HNO.out hx
          have E := Lib.hid e
          clear e hx
          go_wp2_with fail
          rw [Exit.noGoto_ret]
          go_ret2
          exact ⟨by rw [E.out]; rfl, HB.out.trans (HB1.out.mono HB.out.size)⟩
      · have hkn : k = n := by omega
        subst hkn
        have e := fnF_none HE0.out HE1.out HE2.out (by rw [← HN.out]; exact HNO.out)
        have E := Lib.hid e
        clear e
        have hl : k - 1 < f.code.length := by have := HN.out; omega
        obtain ⟨b, off, eC, hb, c0, -⟩ := (HF2.out.below HBW.out).ins5 (k - 1) hl
        simp only at eC
        subst eC
        have he : (f.code.getD (f.code.length - 1) noIns).op = f.code[k - 1].op := by
          rw [← HN.out, code_getD hl]
        rw [he] at E
        generalize f.code[k - 1].op = op at *
        clear he hl
        go_wp2_with fail
        refine (isaEnds_any _ _ (HT2.out.step HBW.out)).mono ?_
        rintro e w1 ⟨rfl, hb1⟩
        have HB1 := Lib.hid (HBW.out.trans (hb1.mono HBW.out.size))
        have e2 := E.out
        rw [← HN.out] at e2
        clear hb1 p0 p1 E
        cases ho : opEnds op
        · rw [ho, if_neg Bool.false_ne_true] at e2
          have E2 := Lib.hid e2
          clear e2
          go_wp2_with fail
          rw [Exit.noGoto_ret]
          go_ret2
          exact ⟨by rw [E2.out]; rfl, HB.out.trans (HB1.out.mono HB.out.size)⟩
        · rw [ho, if_pos rfl] at e2
          have E2 := Lib.hid e2
          clear e2
          go_wp2_with fail
          rw [Exit.noGoto_ret]
          go_ret2
          exact ⟨by rw [E2.out]; rfl, HB.out.trans (HB1.out.mono HB.out.size)⟩
  · have e : fnF f funcs = (-1, 9) := by unfold fnF; rw [if_neg (by omega), if_neg (by omega), if_pos (by omega)]
    rw [e]; clear e
    have hs' : ((n : Int) != m) = true := by simp; omega
    clear h0 h64 hs hn hm
    go_enter Tryd.func23, Tryd.ntmps23
    go_wp2_with fail
    go_step3
    go_wp2_with fail
    rw [Exit.noGoto_ret]
    go_ret2
    exact ⟨rfl, hB⟩
end Go.Proofs.YtfgaonkoaolffaaDoor

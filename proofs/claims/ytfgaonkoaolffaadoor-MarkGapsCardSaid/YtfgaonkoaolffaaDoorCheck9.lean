/-
  Contracts of valid.Check and the reference's Check. Conditions: the table is laid where the code reads it; the program lies in memory.
-/
import Derived.Test.YtfgaonkoaolffaaDoorOne9
import Derived.OwnWalk
namespace Go.Proofs.YtfgaonkoaolffaaDoor
open Go.RowKit
def noFn : Fn := ⟨[], []⟩
def fnAt (fs : List Fn) (i : Nat) : Int × Int := fnF (fs.getD i noFn) fs.length
def badFn (fs : List Fn) : Option Nat := (List.range fs.length).find? fun i => (fnAt fs i).2 != 0
/-- What is wrong with a program first, and where. -/
def checkP (fs : List Fn) : Int × Int × Int :=
  if fs.length = 0 then (-1, -1, 6) else if 16 < fs.length then (-1, -1, 5)
  else match badFn fs with
    | some i => (i, (fnAt fs i).1, (fnAt fs i).2)
    | none => (-1, -1, 0)
theorem checkP_bad {fs : List Fn} {k : Nat} (h0 : fs.length ≠ 0) (h16 : ¬ 16 < fs.length) (hk : k < fs.length) (h : ∀ i, i < k → (fnAt fs i).2 = 0) (hp : (fnAt fs k).2 ≠ 0) :
    checkP fs = ((k : Int), (fnAt fs k).1, (fnAt fs k).2) := by
  have : badFn fs = some k := find_range_some hk (fun i hi => by simp [h i hi]) (by simpa using hp)
  unfold checkP
  rw [this, if_neg h0, if_neg h16]
theorem checkP_none {fs : List Fn} (h0 : fs.length ≠ 0) (h16 : ¬ 16 < fs.length) (h : ∀ i, i < fs.length → (fnAt fs i).2 = 0) : checkP fs = (-1, -1, 0) := by
  have : badFn fs = none := find_range_none (fun i hi => by simp [h i hi])
  unfold checkP
  rw [this, if_neg h0, if_neg h16]
def tri (x : Int × Int × Int) : Value := .tuple #[.int .i64 x.1, .int .i64 x.2.1, .int .i64 x.2.2]
set_option maxHeartbeats 4000000 in
theorem checkP_any (A : Option Addr) (c : Nat) (fs : List Fn) (w : World) (hT : Tab w) (hm : fs.length ≤ maxLen) (hf : FnsOk w w.heap.size A fs) :
    Calls Tryd.prog 13 #[.agg #[.slice A fs.length c]] w fun e w' => e = .returned (tri (checkP fs)) ∧ Below w.heap.size w w' := by
  generalize hn : fs.length = n at *
  unfold maxLen at hm
  have HT := Lib.hid hT
  have HF := Lib.hid hf
  have HN := Lib.hid hn
  have hB : Below w.heap.size w (w.alloc (.cells #[.slice A n c] 24)) := (Below.refl _ _).alloc (Nat.le_refl _) _
  clear hT hf hn
  by_cases h0 : n = 0
  · have e : checkP fs = (-1, -1, 6) := by unfold checkP; rw [if_pos (by have := HN.out; omega)]
    rw [e]; clear e
    subst h0
    go_enter Tryd.func13, Tryd.ntmps13
    go_wp2_with fail
    go_ret3
    exact ⟨rfl, hB⟩
  have h0' : ((n : Int) == 0) = false := by simpa using h0
  by_cases h16 : 16 < n
  · have e : checkP fs = (-1, -1, 5) := by unfold checkP; rw [if_neg (by have := HN.out; omega), if_pos (by have := HN.out; omega)]
    rw [e]; clear e
    have h16' : decide ((16 : Int) < n) = true := by simp; omega
    clear h0
    go_enter Tryd.func13, Tryd.ntmps13
    go_wp2_with fail
    go_ret3
    exact ⟨rfl, hB⟩
  have h16' : decide ((16 : Int) < n) = false := by simp; omega
  have HE0 := Lib.hid (show fs.length ≠ 0 by have := HN.out; omega)
  have HE1 := Lib.hid (show ¬ 16 < fs.length by have := HN.out; omega)
  clear h0 h16
  have HB := Lib.hid hB
  clear hB
  go_enter Tryd.func13, Tryd.ntmps13
  go_wp2_with fail
  have HT2 := Lib.hid (HT.out.step HB.out)
  have HF2 := Lib.hid (HF.out.step HB.out)
  have hp0 : (w.alloc (.cells #[.slice A n c] 24)).cell? ⟨w.heap.size, 0, none⟩ = some (.slice A n c) := (Blk.new w 24 _).cell 0
  have hz : (w.alloc (.cells #[.slice A n c] 24)).heap.size = w.heap.size + 1 := by simp
  have keep : ∀ w', Below (w.alloc (.cells #[.slice A n c] 24)).heap.size (w.alloc (.cells #[.slice A n c] 24)) w' → w'.cell? ⟨w.heap.size, 0, none⟩ = some (.slice A n c) :=
    fun w' h => (h.cell (p := ⟨w.heap.size, 0, none⟩) (by show w.heap.size < _; omega)).trans hp0
  have HK := Lib.hid keep
  have HZ := Lib.hid hz
  clear keep hp0 hz HT HF
  generalize (w.alloc (.cells #[.slice A n c] 24)) = W at *
  go_loopw [22] (fun vi wr => ∃ k : Nat, k ≤ n ∧ vi = .int .i64 k ∧ (∀ i, i < k → (fnAt fs i).2 = 0) ∧ Below W.heap.size W wr) (fun vi _ => n - (intOf vi).toNat)
  case atStart => exact ⟨0, by omega, rfl, fun i hi => by omega, Below.refl _ _⟩
  case round =>
    obtain ⟨k, hk, rfl, hno, hb⟩ := hrel
    have HNO := Lib.hid hno
    have HBW := Lib.hid hb
    have p0 := HK.out _ hb
    clear hno hb
    by_cases hlt : k < n
    · have hkc : k < fs.length := by rw [HN.out]; exact hlt
      obtain ⟨b, off, a, eA, hbb, c0, c1, hfn⟩ := (HF2.out.step HBW.out).at_ k hkc
      subst eA
      have hfa : fnAt fs k = fnF fs[k] n := by rw [fnAt, HN.out]; simp [hkc]
      have HFA := Lib.hid hfa
      have HFN := Lib.hid hfn
      clear hfa hfn
      have hz0 : w.heap.size < wr.heap.size := by have := HBW.out.size; have := HZ.out; omega
      generalize fs[k] = f at *
      obtain ⟨C, fn, fc, S, fm, fd⟩ := a
      simp only at c0 c1
      go_wp2_with fail
      refine (fn_any ⟨C, fn, fc, S, fm, fd⟩ f _ _ ((HT2.out.step HBW.out).alloc _) (HFN.out.alloc _)).mono ?_
      rintro e w1 ⟨rfl, hb1⟩
      have HB1 := Lib.hid ((HBW.out.alloc HBW.out.size (.cells #[.slice C fn fc, .slice S fm fd] 39)).trans (hb1.mono (HBW.out.alloc HBW.out.size (.cells #[.slice C fn fc, .slice S fm fd] 39)).size))
      rw [← HFA.out]
      clear hb1 p0 c0 c1
      by_cases hx : (fnAt fs k).2 = 0
      · have hx' : ((fnAt fs k).2 != 0) = false := by simpa using hx
        have HX := Lib.hid hx
        clear hx
        go_wp2_with fail
        go_roundw
        case rel => exact ⟨k + 1, by omega, by go_num, all_succ HNO.out HX.out, HB1.out⟩
        case measure => simp [intOf]; omega
      · have hx' : ((fnAt fs k).2 != 0) = true := by simpa using hx
        have e := checkP_bad HE0.out HE1.out hkc HNO.out hx
        have E := Lib.hid e
        clear e hx
        go_wp2_with fail
        go_ret3
        exact ⟨by rw [E.out]; rfl, HB.out.trans (HB1.out.mono HB.out.size)⟩
    · have hkn : k = n := by omega
      subst hkn
      have e := checkP_none HE0.out HE1.out (by rw [HN.out]; exact HNO.out)
      have E := Lib.hid e
      clear e
      go_wp2_with fail
      go_ret3
      exact ⟨by rw [E.out]; rfl, HB.out.trans (HBW.out.mono HB.out.size)⟩
set_option maxHeartbeats 4000000 in
theorem rcheckP_any (A : Option Addr) (c : Nat) (fs : List Fn) (w : World) (hm : fs.length ≤ maxLen) (hf : FnsOk w w.heap.size A fs) :
    Calls Tryd.prog 10 #[.agg #[.slice A fs.length c]] w fun e w' => e = .returned (tri (checkP fs)) ∧ Below w.heap.size w w' := by
  generalize hn : fs.length = n at *
  unfold maxLen at hm
  have HF := Lib.hid hf
  have HN := Lib.hid hn
  have hB : Below w.heap.size w (w.alloc (.cells #[.slice A n c] 24)) := (Below.refl _ _).alloc (Nat.le_refl _) _
  clear hf hn
  by_cases h0 : n = 0
  · have e : checkP fs = (-1, -1, 6) := by unfold checkP; rw [if_pos (by have := HN.out; omega)]
    rw [e]; clear e
    subst h0
    go_enter Tryd.func10, Tryd.ntmps10
    go_wp2_with fail
    go_ret3
    exact ⟨rfl, hB⟩
  have h0' : ((n : Int) == 0) = false := by simpa using h0
  by_cases h16 : 16 < n
  · have e : checkP fs = (-1, -1, 5) := by unfold checkP; rw [if_neg (by have := HN.out; omega), if_pos (by have := HN.out; omega)]
    rw [e]; clear e
    have h16' : decide ((16 : Int) < n) = true := by simp; omega
    clear h0
    go_enter Tryd.func10, Tryd.ntmps10
    go_wp2_with fail
    go_ret3
    exact ⟨rfl, hB⟩
  have h16' : decide ((16 : Int) < n) = false := by simp; omega
  have HE0 := Lib.hid (show fs.length ≠ 0 by have := HN.out; omega)
  have HE1 := Lib.hid (show ¬ 16 < fs.length by have := HN.out; omega)
  clear h0 h16
  have HB := Lib.hid hB
  clear hB
  go_enter Tryd.func10, Tryd.ntmps10
  go_wp2_with fail
  have HF2 := Lib.hid (HF.out.step HB.out)
  have hp0 : (w.alloc (.cells #[.slice A n c] 24)).cell? ⟨w.heap.size, 0, none⟩ = some (.slice A n c) := (Blk.new w 24 _).cell 0
  have hz : (w.alloc (.cells #[.slice A n c] 24)).heap.size = w.heap.size + 1 := by simp
  have keep : ∀ w', Below (w.alloc (.cells #[.slice A n c] 24)).heap.size (w.alloc (.cells #[.slice A n c] 24)) w' → w'.cell? ⟨w.heap.size, 0, none⟩ = some (.slice A n c) :=
    fun w' h => (h.cell (p := ⟨w.heap.size, 0, none⟩) (by show w.heap.size < _; omega)).trans hp0
  have HK := Lib.hid keep
  have HZ := Lib.hid hz
  clear keep hp0 hz HF
  generalize (w.alloc (.cells #[.slice A n c] 24)) = W at *
  go_loopw [5] (fun vi wr => ∃ k : Nat, k ≤ n ∧ vi = .int .i64 k ∧ (∀ i, i < k → (fnAt fs i).2 = 0) ∧ Below W.heap.size W wr) (fun vi _ => n - (intOf vi).toNat)
  case atStart => exact ⟨0, by omega, rfl, fun i hi => by omega, Below.refl _ _⟩
  case round =>
    obtain ⟨k, hk, rfl, hno, hb⟩ := hrel
    have HNO := Lib.hid hno
    have HBW := Lib.hid hb
    have p0 := HK.out _ hb
    clear hno hb
    by_cases hlt : k < n
    · have hkc : k < fs.length := by rw [HN.out]; exact hlt
      obtain ⟨b, off, a, eA, hbb, c0, c1, hfn⟩ := HF2.out.at_ k hkc
      subst eA
      have hfa : fnAt fs k = fnF fs[k] n := by rw [fnAt, HN.out]; simp [hkc]
      have HFA := Lib.hid hfa
      have HFN := Lib.hid hfn
      clear hfa hfn
      generalize fs[k] = f at *
      obtain ⟨C, fn, fc, S, fm, fd⟩ := a
      simp only at c0 c1
      have s0 : ∀ w', Below W.heap.size W w' → w'.cell? ⟨w.heap.size, 0, none⟩ = some (.slice (some ⟨b, off, none⟩) n c) := HK.out
      have t0 : ∀ w', Below W.heap.size W w' → w'.cell? ⟨b, off + k * 2, none⟩ = some (.slice C fn fc) := fun w' h => (h.cell (p := ⟨b, _, none⟩) hbb).trans c0
      have t1 : ∀ w', Below W.heap.size W w' → w'.cell? ⟨b, off + k * 2 + 1, none⟩ = some (.slice S fm fd) := fun w' h => (h.cell (p := ⟨b, _, none⟩) hbb).trans c1
      have HS0 := Lib.hid s0
      have HS1 := Lib.hid t0
      have HS2 := Lib.hid t1
      clear s0 t0 t1 c0 c1
      go_wp2_with fail
      have s0 := HS0.out
      have t0 := HS1.out
      have t1 := HS2.out
      refine region_below W W.heap.size (by kernel_rfl) (by kernel_rfl) HBW.out ?_
      repeat (first | go_big_quiet_skip | (go_big_quiet_want; first | (go_big_quiet_op; first | go_big_quiet_on | ((first | with_reducible refine ⟨_, fun _ _ => rfl, ?_⟩ | with_reducible refine ⟨_, fun w' hw' => calm_of hw' (Nat.le_refl _) (one_any ⟨C, fn, fc, S, fm, fd⟩ f _ _ (HFN.out.step hw')), ?_⟩); go_big_quiet_on)) | (simp (contextual := true) [go_sem, s0, t0, t1]; with_reducible refine ⟨_, fun _ _ => rfl, ?_⟩; go_big_quiet_on)))
      refine wpQuiet_nil ?_
      intro w1 hw1
      have HB1 := Lib.hid hw1
      rw [← HFA.out]
      clear hw1 p0 s0 t0 t1
      by_cases hx : (fnAt fs k).2 = 0
      · have hx' : ((fnAt fs k).2 != 0) = false := by simpa using hx
        have HX := Lib.hid hx
        clear hx
        go_wp2_with fail
        go_roundw
        case rel => exact ⟨k + 1, by omega, by go_num, all_succ HNO.out HX.out, HB1.out⟩
        case measure => simp [intOf]; omega
      · have hx' : ((fnAt fs k).2 != 0) = true := by simpa using hx
        have e := checkP_bad HE0.out HE1.out hkc HNO.out hx
        have E := Lib.hid e
        clear e hx
        go_wp2_with fail
        go_ret3
        exact ⟨by rw [E.out]; rfl, HB.out.trans (HB1.out.mono HB.out.size)⟩
    · have hkn : k = n := by omega
      subst hkn
      have e := checkP_none HE0.out HE1.out (by rw [HN.out]; exact HNO.out)
      have E := Lib.hid e
      clear e
      go_wp2_with fail
      go_ret3
      exact ⟨by rw [E.out]; rfl, HB.out.trans (HBW.out.mono HB.out.size)⟩
end Go.Proofs.YtfgaonkoaolffaaDoor

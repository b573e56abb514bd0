/-
  Chapter 33: the walk of GenRuns. Condition: the table is laid.
-/
import Derived.Test.YtlkmpafendggiaaDoorRight33
import Derived.Test.YtlkmpafendggiaaDoorDice33
import Derived.Test.YtlkmpafendggiaaDoorCheck9
namespace Go.Proofs.YtlkmpafendggiaaDoor
open Go.RowKit
/-- A program that may run, or none. -/
def MayRun (f : Int) (fs : List Fn) : Prop := (f = 0 ∧ checkP fs = (-1, -1, 0)) ∨ (f = 1 ∧ fs = [])
def Out (w w' : World) (e : Ending) : Prop := ∃ (A : Option Addr) (n c : Nat) (f : Int) (fs : List Fn), e = .returned (.tuple #[.agg #[.slice A n c], .int .i64 f]) ∧ fs.length = n ∧ n ≤ 16 ∧ FnsOk w' w'.heap.size A fs ∧ MayRun f fs ∧ Below w.heap.size w w'
theorem out_made {w w' : World} {e : Ending} {gs : List Fn} (h : Made w w' e gs) (hl : gs.length ≤ 16) (hc : checkP (mendP gs) = (-1, -1, 0)) : Out w w' e := by
  obtain ⟨A, c, he, hf, hb⟩ := h
  exact ⟨A, gs.length, c, 0, mendP gs, he, mendP_length gs, hl, hf, .inl ⟨rfl, hc⟩, hb⟩
theorem out_none {w w' : World} {e : Ending} (h : NoneMade w w' e) : Out w w' e :=
  ⟨none, 0, 0, 1, [], h.1, rfl, by omega, ⟨[], rfl, fun i h => by simp at h, .inl rfl⟩, .inr ⟨rfl, rfl⟩, h.2⟩
theorem rounds_out {w : World} (n : Int) (hT : Tab w) : Calls Tryd.prog 40 #[.int .i64 n] w fun e w' => Out w w' e := by
  cases h : rightB n
  · exact (rounds_bad n h w).mono fun _ _ h => out_none h
  · have hn : 1 ≤ n ∧ n ≤ 61 := by simpa [rightB] using h
    obtain ⟨k, rfl⟩ := Int.eq_ofNat_of_zero_le (show 0 ≤ n by omega)
    exact (rounds_any k (by omega) (by omega) w hT).mono fun _ _ h => out_made h (by simp [roundsP]) (rounds_right k (by omega))
theorem chain_out {w : World} (n : Int) (hT : Tab w) : Calls Tryd.prog 41 #[.int .i64 n] w fun e w' => Out w w' e := by
  cases h : rightB n
  · exact (chain_bad n h w).mono fun _ _ h => out_none h
  · have hn : 1 ≤ n ∧ n ≤ 61 := by simpa [rightB] using h
    obtain ⟨k, rfl⟩ := Int.eq_ofNat_of_zero_le (show 0 ≤ n by omega)
    exact (chain_any k (by omega) (by omega) w hT).mono fun _ _ h => out_made h (by simp [chainP]) (chain_right k (by omega))
theorem guard_out {w : World} (n : Int) (hT : Tab w) : Calls Tryd.prog 42 #[.int .i64 n] w fun e w' => Out w w' e := by
  cases h : guardB n
  · exact (guard_bad n h w).mono fun _ _ h => out_none h
  · have hn : (1 ≤ n ∧ n ≤ 61) ∧ 3 * n + 2 ≤ 64 := by simpa [guardB, rightB] using h
    obtain ⟨k, rfl⟩ := Int.eq_ofNat_of_zero_le (show 0 ≤ n by omega)
    exact (guard_any k (by omega) (by omega) w hT).mono fun _ _ h => out_made h (by simp [guardP]) (guard_right k (by omega))
theorem random_out {w : World} (x funcs size : Int) (hT : Tab w) : Calls Tryd.prog 39 #[.int .u64 x, .int .i64 funcs, .int .i64 size] w fun e w' => Out w w' e := by
  cases h : randB funcs size
  · exact (random_bad x funcs size h w).mono fun _ _ h => out_none h
  · have hn : 1 ≤ funcs ∧ funcs ≤ 16 ∧ 1 ≤ size ∧ size ≤ 64 := by simpa [randB] using h
    obtain ⟨F, rfl⟩ := Int.eq_ofNat_of_zero_le (show 0 ≤ funcs by omega)
    obtain ⟨Z, rfl⟩ := Int.eq_ofNat_of_zero_le (show 0 ≤ size by omega)
    exact (random_any x F Z (by omega) (by omega) (by omega) (by omega) w hT).mono fun _ _ ⟨gs, h1, h2, h3⟩ => out_made h3 (by omega) (random_right h1 (by omega) (by omega) (by omega) h2)
set_option maxHeartbeats 4000000 in
set_option maxRecDepth 100000 in
theorem runs_any (A : Option Addr) (n c : Nat) (f : Int) (fs : List Fn) (w : World) (hn : Hid (fs.length = n)) (h16 : n ≤ 16) (hf : FnsOk w w.heap.size A fs) (hm : MayRun f fs) :
    Calls Tryd.prog 43 #[.agg #[.slice A n c], .int .i64 f] w fun e w' => e = .returned (.bool true) ∧ Below w.heap.size w w' := by
  have hB : Below w.heap.size w (w.alloc (.cells #[.slice A n c] 32)) := (Below.refl _ _).alloc (Nat.le_refl _) _
  have HF := Lib.hid (hf.step hB)
  have HB := Lib.hid hB
  have hbk := Blk.new w 32 #[.slice A n c]
  have HBK := Lib.hid hbk
  have HM := Lib.hid hm
  have hmx : n ≤ maxLen := by unfold maxLen; omega
  clear hf hB hbk hm
  go_enter Tryd.func43, Tryd.ntmps43
  go_wp2_with fail
  generalize (w.alloc (.cells #[.slice A n c] 32)) = W at *
  have hc := rcheckP_any A c fs W (by rw [hn.out]; exact hmx) HF.out
  rw [hn.out] at hc
  refine hc.mono ?_
  rintro e w1 ⟨rfl, hb1⟩
  have p0 := (HBK.out.below hb1 HBK.out.lt).cell 0
  simp at p0
  have H1 := Lib.hid (HB.out.trans (hb1.mono HB.out.size))
  clear hb1 hc
  rcases HM.out with ⟨rfl, hcp⟩ | ⟨rfl, rfl⟩
  · rw [hcp]
    simp only [tri]
    clear hcp
    go_wp2_with fail
    go_ret
    exact ⟨by simp, H1.out⟩
  · have hn0 : n = 0 := by have := hn.out; simpa using this.symm
    subst hn0
    generalize hr : checkP [] = r
    obtain ⟨x, y, z⟩ := r
    clear hr
    simp only [tri]
    go_wp2_with fail
    go_ret
    exact ⟨by simp, H1.out⟩
set_option maxHeartbeats 4000000 in
set_option maxRecDepth 100000 in
theorem runs33 (x funcs size n : Int) (w : World) (hT : Tab w) : Calls Tryd.prog 8 #[.int .u64 x, .int .i64 funcs, .int .i64 size, .int .i64 n] w fun e w' => e = .returned (.bool true) ∧ Below w.heap.size w w' := by
  have HT := Lib.hid hT
  clear hT
  go_enter Tryd.func8, Tryd.ntmps8
  go_wp2_with fail
  refine (random_out _ _ _ HT.out).mono ?_
  rintro e w1 ⟨A1, n1, c1, f1, fs1, rfl, l1, h161, hf1, hm1, hb1⟩
  have L1 := Lib.hid l1
  have M1 := Lib.hid hm1
  have hB1 := hb1.alloc hb1.size (.cells #[.slice A1 n1 c1] 32)
  have F1 := Lib.hid (hf1.step ((Below.refl _ _).alloc (Nat.le_refl _) (.cells #[.slice A1 n1 c1] 32)))
  have K1 := Lib.hid (Blk.new w1 32 #[.slice A1 n1 c1])
  have B1 := Lib.hid hB1
  clear l1 hm1 hb1 hf1 hB1
  go_wp2_with fail
  generalize (w1.alloc (.cells #[.slice A1 n1 c1] 32)) = W1 at *
  refine (rounds_out _ (HT.out.step B1.out)).mono ?_
  rintro e w2 ⟨A2, n2, c2, f2, fs2, rfl, l2, h162, hf2, hm2, hb2⟩
  have L2 := Lib.hid l2
  have M2 := Lib.hid hm2
  have hs2 := (Below.refl w2.heap.size w2).alloc (Nat.le_refl _) (.cells #[.slice A2 n2 c2] 32)
  have hB2 := hb2.alloc hb2.size (.cells #[.slice A2 n2 c2] 32)
  have F2 := Lib.hid (hf2.step hs2)
  have K2 := Lib.hid (Blk.new w2 32 #[.slice A2 n2 c2])
  have F12 := Lib.hid (F1.out.step hB2)
  have K12 := Lib.hid (K1.out.below hB2 K1.out.lt)
  have B2 := Lib.hid (B1.out.trans (hB2.mono B1.out.size))
  clear l2 hm2 hb2 hf2 hB2 hs2
  go_wp2_with fail
  generalize (w2.alloc (.cells #[.slice A2 n2 c2] 32)) = W2 at *
  refine (chain_out _ (HT.out.step B2.out)).mono ?_
  rintro e w3 ⟨A3, n3, c3, f3, fs3, rfl, l3, h163, hf3, hm3, hb3⟩
  have L3 := Lib.hid l3
  have M3 := Lib.hid hm3
  have hs3 := (Below.refl w3.heap.size w3).alloc (Nat.le_refl _) (.cells #[.slice A3 n3 c3] 32)
  have hB3 := hb3.alloc hb3.size (.cells #[.slice A3 n3 c3] 32)
  have F3 := Lib.hid (hf3.step hs3)
  have K3 := Lib.hid (Blk.new w3 32 #[.slice A3 n3 c3])
  have F13 := Lib.hid (F12.out.step hB3)
  have F23 := Lib.hid (F2.out.step hB3)
  have K13 := Lib.hid (K12.out.below hB3 K12.out.lt)
  have K23 := Lib.hid (K2.out.below hB3 K2.out.lt)
  have B3 := Lib.hid (B2.out.trans (hB3.mono B2.out.size))
  clear l3 hm3 hb3 hf3 hB3 hs3
  go_wp2_with fail
  generalize (w3.alloc (.cells #[.slice A3 n3 c3] 32)) = W3 at *
  refine (guard_out _ (HT.out.step B3.out)).mono ?_
  rintro e w4 ⟨A4, n4, c4, f4, fs4, rfl, l4, h164, hf4, hm4, hb4⟩
  have L4 := Lib.hid l4
  have M4 := Lib.hid hm4
  have hs4 := (Below.refl w4.heap.size w4).alloc (Nat.le_refl _) (.cells #[.slice A4 n4 c4] 32)
  have hB4 := hb4.alloc hb4.size (.cells #[.slice A4 n4 c4] 32)
  have F4 := Lib.hid (hf4.step hs4)
  have K4 := Lib.hid (Blk.new w4 32 #[.slice A4 n4 c4])
  have F14 := Lib.hid (F13.out.step hB4)
  have F24 := Lib.hid (F23.out.step hB4)
  have F34 := Lib.hid (F3.out.step hB4)
  have K14 := Lib.hid (K13.out.below hB4 K13.out.lt)
  have K24 := Lib.hid (K23.out.below hB4 K23.out.lt)
  have K34 := Lib.hid (K3.out.below hB4 K3.out.lt)
  have B4 := Lib.hid (B3.out.trans (hB4.mono B3.out.size))
  have q1 := K14.out.cell 0
  simp at q1
  clear l4 hm4 hb4 hf4 hB4 hs4
  go_wp2_with fail
  generalize (w4.alloc (.cells #[.slice A4 n4 c4] 32)) = W4 at *
  refine (runs_any _ _ _ _ fs1 _ L1 h161 F14.out M1.out).mono ?_
  rintro e w5 ⟨rfl, hb5⟩
  have H5 := Lib.hid hb5
  have q2 := (K24.out.below hb5 K24.out.lt).cell 0
  simp at q2
  clear hb5 q1
  go_wp2_with fail
  refine (runs_any _ _ _ _ fs2 _ L2 h162 (F24.out.step H5.out) M2.out).mono ?_
  rintro e w6 ⟨rfl, hb6⟩
  have H6 := Lib.hid (H5.out.trans (hb6.mono H5.out.size))
  have q3 := (K34.out.below H6.out K34.out.lt).cell 0
  simp at q3
  clear hb6 q2
  go_wp2_with fail
  refine (runs_any _ _ _ _ fs3 _ L3 h163 (F34.out.step H6.out) M3.out).mono ?_
  rintro e w7 ⟨rfl, hb7⟩
  have H7 := Lib.hid (H6.out.trans (hb7.mono H6.out.size))
  have q4 := (K4.out.below H7.out K4.out.lt).cell 0
  simp at q4
  clear hb7 q3
  go_wp2_with fail
  refine (runs_any _ _ _ _ fs4 _ L4 h164 (F4.out.step H7.out) M4.out).mono ?_
  rintro e w8 ⟨rfl, hb8⟩
  have H8 := Lib.hid (H7.out.trans (hb8.mono H7.out.size))
  clear hb8 q4
  go_wp2_with fail
  refine (alive33 _ ((HT.out.step B4.out).step H8.out)).mono ?_
  rintro e w9 ⟨rfl, hb9⟩
  have H9 := Lib.hid (H8.out.trans (hb9.mono H8.out.size))
  clear hb9
  go_wp2_with fail
  go_ret
  exact ⟨by simp, B4.out.trans (H9.out.mono B4.out.size)⟩
end Go.Proofs.YtlkmpafendggiaaDoor

/-
  Chapter 33: contract of (*maker).instr: it hands back an instruction that is right. Conditions: the table is laid, the dice lie in memory.
-/
import Derived.Test.YtlkmpafendggiaaDoorGuard
import Derived.Test.YtlkmpafendggiaaDoorAll06
import Derived.Test.YtlkmpafendggiaaDoorIsaCheck
namespace Go.Proofs.YtlkmpafendggiaaDoor
open Go.RowKit
theorem below_lt (x n : Int) (h : 1 ≤ n) : 0 ≤ below x n ∧ below x n < n := by
  rw [below_pos (by omega)]
  exact ⟨Int.emod_nonneg _ (by omega), Int.emod_lt_of_pos _ (by omega)⟩
/-- An instruction that is right. -/
def GoodIns (i : Ins) (places funcs : Int) : Prop := checkF i.op i.a i.b i.c i.n places funcs = 0 ∧ InsOk i
theorem targets : ∀ k : Fin 24, (opTarget (k.val : Int) = 0 ∨ opTarget (k.val : Int) = 1 ∨ opTarget (k.val : Int) = 2) ∧ 0 ≤ opRegs (k.val : Int) ∧ opRegs (k.val : Int) ≤ 3 ∧ isOpB (k.val : Int) = true := by decide +kernel
theorem op_cases (op : Int) (h0 : 0 ≤ op) (h1 : op < 24) : (opTarget op = 0 ∨ opTarget op = 1 ∨ opTarget op = 2) ∧ 0 ≤ opRegs op ∧ opRegs op ≤ 3 ∧ isOpB op = true := by
  obtain ⟨k, rfl⟩ := Int.eq_ofNat_of_zero_le h0
  exact targets ⟨k, by omega⟩
/-- The first j registers are thrown, the others 0. -/
def RegsOk (j : Nat) (a b c : Int) : Prop := ∀ t, t < 3 → (t < j → 0 ≤ abcAt a b c t ∧ abcAt a b c t < 8) ∧ (j ≤ t → abcAt a b c t = 0)
theorem regs_good {r : Nat} {a b c : Int} (h : RegsOk r a b c) : regsBad (r : Int) a b c = false ∧ spareBad (r : Int) a b c = false ∧ I64 a ∧ I64 b ∧ I64 c := by
  have h0 := h 0 (by omega)
  have h1 := h 1 (by omega)
  have h2 := h 2 (by omega)
  simp only [abcAt] at h0 h1 h2
  have b0 : 0 ≤ a ∧ a < 8 := by by_cases q : 0 < r; · exact h0.1 q
                                · have := h0.2 (by omega); omega
  have b1 : 0 ≤ b ∧ b < 8 := by by_cases q : 1 < r; · exact h1.1 q
                                · have := h1.2 (by omega); omega
  have b2 : 0 ≤ c ∧ c < 8 := by by_cases q : 2 < r; · exact h2.1 q
                                · have := h2.2 (by omega); omega
  refine ⟨?_, ?_, ⟨by omega, by omega⟩, ⟨by omega, by omega⟩, ⟨by omega, by omega⟩⟩
  · simp only [regsBad, regB, Bool.or_eq_false_iff, Bool.and_eq_false_iff, decide_eq_false_iff_not]
    omega
  · simp only [spareBad, spB, Bool.or_eq_false_iff, Bool.and_eq_false_iff, decide_eq_false_iff_not, bne_eq_false_iff_eq]
    refine ⟨⟨?_, ?_⟩, ?_⟩
    · by_cases q : 0 < r
      · left; omega
      · right; exact h0.2 (by omega)
    · by_cases q : 1 < r
      · left; omega
      · right; exact h1.2 (by omega)
    · by_cases q : 2 < r
      · left; omega
      · right; exact h2.2 (by omega)
theorem good_ins {op a b c n places funcs : Int} {r : Nat} (h0 : 0 ≤ op) (h1 : op < 24) (hr : opRegs op = r) (hg : RegsOk r a b c) (hn : (opTarget op = 0 ∧ (n = 0 ∨ opNumber op = true)) ∨ (opTarget op = 1 ∧ 0 ≤ n ∧ n < places) ∨ (opTarget op = 2 ∧ 0 ≤ n ∧ n < funcs)) (hb : I64 n) : GoodIns ⟨op, a, b, c, n⟩ places funcs := by
  obtain ⟨_, _, _, hop⟩ := op_cases op h0 h1
  obtain ⟨g1, g2, g3, g4, g5⟩ := regs_good hg
  refine ⟨?_, (show I64 op from ⟨by omega, by omega⟩), g3, g4, g5, hb⟩
  unfold checkF
  rw [hop, hr, g1, g2]
  rcases hn with ⟨ht, hn⟩ | ⟨ht, h2, h3⟩ | ⟨ht, h2, h3⟩
  · rcases hn with hn | hn
    · simp [ht, hn]
    · simp [ht, hn]
  · have : ¬ (n < 0 ∨ places ≤ n) := by omega
    simp [ht, this]
  · have : ¬ (n < 0 ∨ funcs ≤ n) := by omega
    simp [ht, this]
theorem arr_slice : ∀ (r : Nat) (_ : r ≤ 3) (ga : Nat) (W : World), (Instr.sliceAt 85 (.pointer (some ⟨ga, 0, none⟩)) none (some (.int .i64 (r : Int))) none).run Tryd.prog W = .ok (.slice (some ⟨ga, 0, none⟩) r 3) W
  | 0, _, _, _ => by kernel_rfl
  | 1, _, _, _ => by kernel_rfl
  | 2, _, _, _ => by kernel_rfl
  | 3, _, _, _ => by kernel_rfl
theorem regs_set {j : Nat} {a b c z : Int} (h : RegsOk j a b c) (hj : j < 3) (h0 : 0 ≤ z) (h8 : z < 8) : RegsOk (j + 1) (if j = 0 then z else a) (if j = 1 then z else b) (if j = 2 then z else c) := by
  intro t ht
  have h1 := h t ht
  match j, hj, t, ht with
  | 0, _, 0, _ => simp [abcAt] at h1 ⊢; omega
  | 0, _, 1, _ => simp [abcAt] at h1 ⊢; omega
  | 0, _, 2, _ => simp [abcAt] at h1 ⊢; omega
  | 1, _, 0, _ => simp [abcAt] at h1 ⊢; omega
  | 1, _, 1, _ => simp [abcAt] at h1 ⊢; omega
  | 1, _, 2, _ => simp [abcAt] at h1 ⊢; omega
  | 2, _, 0, _ => simp [abcAt] at h1 ⊢; omega
  | 2, _, 1, _ => simp [abcAt] at h1 ⊢; omega
  | 2, _, 2, _ => simp [abcAt] at h1 ⊢; omega
theorem abc_set {j : Nat} (hj : j < 3) (op a b c n z : Int) : (#[.int .i64 op, .int .i64 a, .int .i64 b, .int .i64 c, .int .i64 n] : Array Value).setIfInBounds (1 + j) (.int .i64 z) = #[.int .i64 op, .int .i64 (if j = 0 then z else a), .int .i64 (if j = 1 then z else b), .int .i64 (if j = 2 then z else c), .int .i64 n] := by
  match j, hj with
  | 0, _ => rfl
  | 1, _ => rfl
  | 2, _ => rfl
/-- What stands while an instruction is thrown. -/
structure IMid (w wr : World) (gd ga : Nat) (op a b c n y : Int) : Prop where
  grow : w.grownBy wr (some gd)
  res : Blk wr w.heap.size 26 #[.int .i64 op, .int .i64 a, .int .i64 b, .int .i64 c, .int .i64 n]
  dice : Blk wr gd 73 #[.int .u64 y]
  arr : Blk wr ga 85 #[.pointer (some ⟨w.heap.size, 1, none⟩), .pointer (some ⟨w.heap.size, 2, none⟩), .pointer (some ⟨w.heap.size, 3, none⟩)]
  hgd : gd < w.heap.size
  hga : w.heap.size < ga
section
variable {w wr w1 : World} {gd ga : Nat} {op a b c n y y' : Int}
theorem IMid.throw (M : IMid w wr gd ga op a b c n y) (h : Thrown wr w1 gd y') : IMid w w1 gd ga op a b c n y' := by
  have h1 := M.hgd
  have h2 := M.hga
  exact ⟨grown_trans M.grow h.1, M.res.grown h.1 (fun e => by injection e with e; omega), h.2.1, M.arr.grown h.1 (fun e => by injection e with e; omega), M.hgd, M.hga⟩
theorem IMid.call (M : IMid w wr gd ga op a b c n y) (h : Below wr.heap.size wr w1) : IMid w w1 gd ga op a b c n y :=
  ⟨grown_trans M.grow (grown_below h _), M.res.below h M.res.lt, M.dice.below h M.dice.lt, M.arr.below h M.arr.lt, M.hgd, M.hga⟩
theorem IMid.set (M : IMid w wr gd ga op a b c n y) (i : Nat) (v : Value) {a' b' c' n' : Int} (hv : (#[.int .i64 op, .int .i64 a, .int .i64 b, .int .i64 c, .int .i64 n] : Array Value).setIfInBounds i v = #[.int .i64 op, .int .i64 a', .int .i64 b', .int .i64 c', .int .i64 n']) :
    IMid w (wr.setCell ⟨w.heap.size, i, none⟩ v) gd ga op a' b' c' n' y := by
  have h1 := M.hgd
  have h2 := M.hga
  refine ⟨⟨M.grow.os, M.grow.tape, M.grow.output, by simpa [World.setCell] using M.grow.size, fun b hb hne => (Below.heap_setCell _ _ _ _ (show b ≠ w.heap.size by omega)).trans (M.grow.block b hb hne)⟩, ?_, M.dice.far (show gd ≠ w.heap.size by omega) _, M.arr.far (show ga ≠ w.heap.size by omega) _, M.hgd, M.hga⟩
  have := M.res.set_ i v
  rwa [hv] at this
end
theorem IMid.tab {w wr : World} {gd ga : Nat} {op a b c n y : Int} (M : IMid w wr gd ga op a b c n y) (hT : Tab w) (h : 0 < gd) : Tab wr :=
  hT.keep ((Below.refl 1 w).grown M.grow (Nat.lt_of_le_of_lt (Nat.zero_le _) M.hgd) (fun k hk => by injection hk with hk; omega)) (by omega)
theorem IMid.post {w wr : World} {gd ga : Nat} {op a b c n y size funcs : Int} (M : IMid w wr gd ga op a b c n y) (hg : GoodIns ⟨op, a, b, c, n⟩ size funcs) : ∃ (i : Ins) (y : Int), Ending.returned (.agg #[.int .i64 op, .int .i64 a, .int .i64 b, .int .i64 c, .int .i64 n]) = .returned (.agg #[.int .i64 i.op, .int .i64 i.a, .int .i64 i.b, .int .i64 i.c, .int .i64 i.n]) ∧ GoodIns i size funcs ∧ Blk wr gd 73 #[.int .u64 y] ∧ w.grownBy wr (some gd) :=
  ⟨⟨op, a, b, c, n⟩, y, rfl, hg, M.dice, M.grow⟩
theorem IMid.again {w wr : World} {gd ga : Nat} {op a b c n y : Int} (M : IMid w wr gd ga op a b c n y) : IMid w (((((wr.setCell ⟨w.heap.size, 0, none⟩ (.int .i64 op)).setCell ⟨w.heap.size, 1, none⟩ (.int .i64 a)).setCell ⟨w.heap.size, 2, none⟩ (.int .i64 b)).setCell ⟨w.heap.size, 3, none⟩ (.int .i64 c)).setCell ⟨w.heap.size, 4, none⟩ (.int .i64 n)) gd ga op a b c n y :=
  ((((M.set 0 _ rfl).set 1 _ rfl).set 2 _ rfl).set 3 _ rfl).set 4 _ rfl
set_option maxHeartbeats 4000000 in
set_option maxRecDepth 100000 in
theorem instr_any (g gd : Nat) (u : Value) (x : Int) (funcs size : Int) (hf : 1 ≤ funcs ∧ funcs ≤ 16) (hs : 1 ≤ size ∧ size ≤ 64) (w : World) (hT : Tab w) (hm : Blk w g 77 #[.pointer (some ⟨gd, 0, none⟩), u]) (hd : Blk w gd 73 #[.int .u64 x]) (hne : 0 < gd) :
    Calls Tryd.prog 54 #[.pointer (some ⟨g, 0, none⟩), .int .i64 funcs, .int .i64 size] w fun e w' => ∃ (i : Ins) (y : Int), e = .returned (.agg #[.int .i64 i.op, .int .i64 i.a, .int .i64 i.b, .int .i64 i.c, .int .i64 i.n]) ∧ GoodIns i size funcs ∧ Blk w' gd 73 #[.int .u64 y] ∧ w.grownBy w' (some gd) := by
  obtain ⟨hf1, hf2⟩ := hf
  obtain ⟨hs1, hs2⟩ := hs
  have HT := Lib.hid hT
  have HM := Lib.hid hm
  have HD := Lib.hid hd
  have HGD := Lib.hid hne
  have m0 := (hm.alloc (.cells #[.int .i64 0, .int .i64 0, .int .i64 0, .int .i64 0, .int .i64 0] 26)).cell 0
  simp at m0
  have hgd := hd.lt
  clear hT hm hd hne
  go_enter Tryd.func54, Tryd.ntmps54
  go_wp2_with fail
  refine (all_any _).mono ?_
  rintro e w1 ⟨⟨A1, c1, rfl, -⟩, hb1⟩
  have hB1 : Below w.heap.size w w1 := ((Below.refl _ _).alloc (Nat.le_refl _) _).trans (hb1.mono (by simp))
  have hr1 : Blk w1 w.heap.size 26 #[.int .i64 0, .int .i64 0, .int .i64 0, .int .i64 0, .int .i64 0] := (Blk.new _ _ _).below hb1 (by simp)
  have HB1 := Lib.hid hB1
  have HR1 := Lib.hid hr1
  clear hb1 hB1 hr1
  go_wp2_with fail
  refine (dbelow_any gd x 24 _ (i64_small _ (by omega) (by omega)) (HD.out.below HB1.out hgd)).mono ?_
  rintro e w2 ⟨rfl, ht⟩
  obtain ⟨o1, o2⟩ := below_lt x 24 (by omega)
  obtain ⟨op, hop⟩ : ∃ op, Hid (op = below x 24) := ⟨_, rfl⟩
  rw [← hop.out] at o1 o2 ⊢
  have hr2 : Blk w2 w.heap.size 26 #[.int .i64 0, .int .i64 0, .int .i64 0, .int .i64 0, .int .i64 0] := HR1.out.grown ht.1 (fun e => by injection e with e; omega)
  have r0 := hr2.cell 0
  have r1 := hr2.frozen 0
  have r2 := hr2.lt
  simp at r0
  have HR2 := Lib.hid hr2
  have HT2 := Lib.hid ht
  clear hr2 ht
  go_wp2_with fail
  have hsz2 : w2.heap.size = w1.heap.size := HT2.out.2.2
  have hM : IMid w ((w2.setCell ⟨w.heap.size, 0, none⟩ (.int .i64 op)).alloc (.cells #[.pointer (some ⟨w.heap.size, 1, none⟩), .pointer (some ⟨w.heap.size, 2, none⟩), .pointer (some ⟨w.heap.size, 3, none⟩)] 85)) gd w2.heap.size op 0 0 0 0 (bnext x 24) := by
    have hs : (w2.setCell ⟨w.heap.size, 0, none⟩ (.int .i64 op)).heap.size = w2.heap.size := by simp [World.setCell]
    have ha := Blk.new (w2.setCell ⟨w.heap.size, 0, none⟩ (.int .i64 op)) 85 #[.pointer (some ⟨w.heap.size, 1, none⟩), .pointer (some ⟨w.heap.size, 2, none⟩), .pointer (some ⟨w.heap.size, 3, none⟩)]
    rw [hs] at ha
    have hgr : w.grownBy w2 (some gd) := grown_trans (grown_below HB1.out _) HT2.out.1
    refine ⟨⟨hgr.os, hgr.tape, hgr.output, by rw [World.size_alloc, hs]; have := hgr.size; omega, fun b hb hne => ?_⟩, ?_, (HT2.out.2.1.far (show gd ≠ w.heap.size by omega) _).alloc _, ha, hgd, r2⟩
    · exact (Below.heap_alloc _ _ _ (by rw [hs]; omega)).trans ((Below.heap_setCell _ _ _ _ (show b ≠ w.heap.size by omega)).trans (hgr.block b hb hne))
    · have := (HR2.out.set_ 0 (.int .i64 op)).alloc (.cells #[.pointer (some ⟨w.heap.size, 1, none⟩), .pointer (some ⟨w.heap.size, 2, none⟩), .pointer (some ⟨w.heap.size, 3, none⟩)] 85)
      simpa using this
  have HIM := Lib.hid hM
  clear hM hsz2 r0 r1 m0
  generalize ((w2.setCell ⟨w.heap.size, 0, none⟩ (.int .i64 op)).alloc (.cells #[.pointer (some ⟨w.heap.size, 1, none⟩), .pointer (some ⟨w.heap.size, 2, none⟩), .pointer (some ⟨w.heap.size, 3, none⟩)] 85)) = W3 at *
  generalize w2.heap.size = ga at *
  generalize bnext x 24 = y0 at *
  refine (isaRegs_any _ _ (HIM.out.tab HT.out HGD.out)).mono ?_
  rintro e w4 ⟨rfl, hb4⟩
  have HIM4 := Lib.hid (HIM.out.call hb4)
  obtain ⟨tc, rg0, rg3, -⟩ := op_cases op o1 o2
  obtain ⟨r, hr⟩ := Int.eq_ofNat_of_zero_le rg0
  have HRR := Lib.hid hr
  have hr3 : r ≤ 3 := by omega
  have HTC := Lib.hid tc
  rw [hr]
  have hsl := arr_slice r hr3
  clear hb4 tc rg0 rg3 hr
  go_wp2_with fail
  clear hsl
  go_loopw [30] (fun vi wr => ∃ (j : Nat) (a b c y : Int), j ≤ r ∧ vi = .int .i64 j ∧ RegsOk j a b c ∧ IMid w wr gd ga op a b c 0 y) (fun vi _ => r - (intOf vi).toNat)
  case atStart => exact ⟨0, 0, 0, 0, y0, by omega, rfl, fun t ht => ⟨fun h => by omega, fun _ => by match t, ht with
    | 0, _ => rfl
    | 1, _ => rfl
    | 2, _ => rfl⟩, HIM4.out⟩
  case round =>
    obtain ⟨j, a, b, c, y, hj, rfl, hreg, hM⟩ := hrel
    have HG := Lib.hid hreg
    have HIR := Lib.hid hM
    clear hreg hM HIM4 HIM
    by_cases hlt : j < r
    · have hj3 : j < 3 := by omega
      have a0 := HIR.out.arr.cell j
      have f0 := HIR.out.res.frozen (1 + j)
      have l0 := HIR.out.res.lt
      have ep : (#[.pointer (some ⟨w.heap.size, 1, none⟩), .pointer (some ⟨w.heap.size, 2, none⟩), .pointer (some ⟨w.heap.size, 3, none⟩)] : Array Value)[j]? = some (.pointer (some ⟨w.heap.size, 1 + j, none⟩)) := by
        match j, hj3 with
        | 0, _ => rfl
        | 1, _ => rfl
        | 2, _ => rfl
      rw [ep] at a0
      clear ep
      go_wp2_with fail
      refine (dbelow_any gd y 8 _ (i64_small _ (by omega) (by omega)) HIR.out.dice).mono ?_
      rintro e w5 ⟨rfl, ht⟩
      obtain ⟨z1, z2⟩ := below_lt y 8 (by omega)
      generalize below y 8 = z at *
      have HI5 := Lib.hid (HIR.out.throw ht)
      obtain ⟨v5, hv5⟩ : ∃ v, w5.cell? ⟨w.heap.size, 1 + j, none⟩ = some v := by
        rw [HI5.out.res.cell (1 + j)]
        match j, hj3 with
        | 0, _ => exact ⟨_, rfl⟩
        | 1, _ => exact ⟨_, rfl⟩
        | 2, _ => exact ⟨_, rfl⟩
      have f5 := HI5.out.res.frozen (1 + j)
      have l5 := HI5.out.res.lt
      clear ht a0 f0 l0
      go_wp2_with fail
      go_roundw
      case rel => exact ⟨j + 1, _, _, _, _, by omega, by go_num, regs_set HG.out hj3 z1 z2, HI5.out.set (1 + j) _ (abc_set hj3 op a b c 0 z)⟩
      case measure => simp [intOf]; omega
    · have hjr : j = r := by omega
      subst hjr
      have p0 := HIR.out.res.cell 0
      simp at p0
      go_wp2_with fail
      refine (isaTarget_any _ _ (HIR.out.tab HT.out HGD.out)).mono ?_
      rintro e w5 ⟨rfl, hb5⟩
      have HI5 := Lib.hid (HIR.out.call hb5)
      clear hb5 p0
      have p0 := HI5.out.res.cell 0
      have p4 := HI5.out.res.cell 4
      have f4 := HI5.out.res.frozen 4
      have l4 := HI5.out.res.lt
      simp at p0 p4
      rcases HTC.out with ht | ht | ht
      · have HTT := Lib.hid ht
        rw [ht]
        clear ht p4 f4
        go_wp2_with fail
        refine (isaNumber_any _ _ (HI5.out.tab HT.out HGD.out)).mono ?_
        rintro e w6 ⟨rfl, hb6⟩
        have HI6 := Lib.hid (HI5.out.call hb6)
        clear hb6 p0 l4
        cases hnum : opNumber op
        · clear hnum
          have q0 := HI6.out.res.cell 0
          have q1 := HI6.out.res.cell 1
          have q2 := HI6.out.res.cell 2
          have q3 := HI6.out.res.cell 3
          have q4 := HI6.out.res.cell 4
          have f0 := HI6.out.res.frozen 0
          have f1 := HI6.out.res.frozen 1
          have f2 := HI6.out.res.frozen 2
          have f3 := HI6.out.res.frozen 3
          have f4 := HI6.out.res.frozen 4
          have l0 := HI6.out.res.lt
          simp at q0 q1 q2 q3 q4
          have HGI := Lib.hid (good_ins (places := size) (funcs := funcs) o1 o2 HRR.out HG.out (.inl ⟨HTT.out, .inl rfl⟩) (i64_small 0 (by omega) (by omega)))
          go_wp2_with fail
          refine bodyPost_ret (v := .agg #[.int .i64 op, .int .i64 a, .int .i64 b, .int .i64 c, .int .i64 0]) (by simp [results, Tryd.results54, go_sem, q0, q1, q2, q3, q4]) rfl ?_
          exact HI6.out.again.post HGI.out
        · have HNU := Lib.hid hnum
          clear hnum
          have HIX := HI6
          go_wp2_with fail
          refine (dbelow_any gd y 16 _ (i64_small _ (by omega) (by omega)) HIX.out.dice).mono ?_
          rintro e w7 ⟨rfl, ht7⟩
          obtain ⟨z1, z2⟩ := below_lt y 16 (by omega)
          generalize below y 16 = z at *
          have HI7 := Lib.hid (HIX.out.throw ht7)
          have q0 := HI7.out.res.cell 0
          have q1 := HI7.out.res.cell 1
          have q2 := HI7.out.res.cell 2
          have q3 := HI7.out.res.cell 3
          have q4 := HI7.out.res.cell 4
          have e0 := HI7.out.res.frozen 0
          have e1 := HI7.out.res.frozen 1
          have e2 := HI7.out.res.frozen 2
          have e3 := HI7.out.res.frozen 3
          have e4 := HI7.out.res.frozen 4
          have l7 := HI7.out.res.lt
          simp at q0 q1 q2 q3 q4
          have HI8 := Lib.hid (HI7.out.set 4 (.int .i64 z) (n' := z) rfl)
          have HGI := Lib.hid (good_ins (places := size) (funcs := funcs) o1 o2 HRR.out HG.out (.inl ⟨HTT.out, .inr HNU.out⟩) (i64_small z (by omega) (by omega)))
          clear ht7
          go_wp2_with fail
          refine bodyPost_ret (v := .agg #[.int .i64 op, .int .i64 a, .int .i64 b, .int .i64 c, .int .i64 z]) (by simp [results, Tryd.results54, go_sem, q0, q1, q2, q3, q4]) rfl ?_
          exact HI8.out.again.post HGI.out
      · have HTT := Lib.hid ht
        rw [ht]
        clear ht p4 f4
        have HIX := HI5
        go_wp2_with fail
        refine (dbelow_any gd y size _ (i64_small _ (by omega) (by omega)) HIX.out.dice).mono ?_
        rintro e w7 ⟨rfl, ht7⟩
        obtain ⟨z1, z2⟩ := below_lt y size (by omega)
        generalize below y size = z at *
        have HI7 := Lib.hid (HIX.out.throw ht7)
        have q0 := HI7.out.res.cell 0
        have q1 := HI7.out.res.cell 1
        have q2 := HI7.out.res.cell 2
        have q3 := HI7.out.res.cell 3
        have q4 := HI7.out.res.cell 4
        have e0 := HI7.out.res.frozen 0
        have e1 := HI7.out.res.frozen 1
        have e2 := HI7.out.res.frozen 2
        have e3 := HI7.out.res.frozen 3
        have e4 := HI7.out.res.frozen 4
        have l7 := HI7.out.res.lt
        simp at q0 q1 q2 q3 q4
        have HI8 := Lib.hid (HI7.out.set 4 (.int .i64 z) (n' := z) rfl)
        have HGI := Lib.hid (good_ins (places := size) (funcs := funcs) o1 o2 HRR.out HG.out (.inr (.inl ⟨HTT.out, z1, z2⟩)) (i64_small z (by omega) (by omega)))
        clear ht7
        go_wp2_with fail
        refine bodyPost_ret (v := .agg #[.int .i64 op, .int .i64 a, .int .i64 b, .int .i64 c, .int .i64 z]) (by simp [results, Tryd.results54, go_sem, q0, q1, q2, q3, q4]) rfl ?_
        exact HI8.out.again.post HGI.out
      · have HTT := Lib.hid ht
        rw [ht]
        clear ht p4 f4
        have HIX := HI5
        go_wp2_with fail
        refine (dbelow_any gd y funcs _ (i64_small _ (by omega) (by omega)) HIX.out.dice).mono ?_
        rintro e w7 ⟨rfl, ht7⟩
        obtain ⟨z1, z2⟩ := below_lt y funcs (by omega)
        generalize below y funcs = z at *
        have HI7 := Lib.hid (HIX.out.throw ht7)
        have q0 := HI7.out.res.cell 0
        have q1 := HI7.out.res.cell 1
        have q2 := HI7.out.res.cell 2
        have q3 := HI7.out.res.cell 3
        have q4 := HI7.out.res.cell 4
        have e0 := HI7.out.res.frozen 0
        have e1 := HI7.out.res.frozen 1
        have e2 := HI7.out.res.frozen 2
        have e3 := HI7.out.res.frozen 3
        have e4 := HI7.out.res.frozen 4
        have l7 := HI7.out.res.lt
        simp at q0 q1 q2 q3 q4
        have HI8 := Lib.hid (HI7.out.set 4 (.int .i64 z) (n' := z) rfl)
        have HGI := Lib.hid (good_ins (places := size) (funcs := funcs) o1 o2 HRR.out HG.out (.inr (.inr ⟨HTT.out, z1, z2⟩)) (i64_small z (by omega) (by omega)))
        clear ht7
        go_wp2_with fail
        refine bodyPost_ret (v := .agg #[.int .i64 op, .int .i64 a, .int .i64 b, .int .i64 c, .int .i64 z]) (by simp [results, Tryd.results54, go_sem, q0, q1, q2, q3, q4]) rfl ?_
        exact HI8.out.again.post HGI.out
end Go.Proofs.YtlkmpafendggiaaDoor

/-
  Chapter 27, the reference's model: in memory; There, Lives, Acts.
-/
import Derived.Test.YtkfpnppppmccdaaDoorMMd27
import Derived.Test.YtkfpnppppmccdaaDoorRSt11
import Derived.Deep.DeepCutAuto
namespace Go.Proofs.YtkfpnppppmccdaaDoor
open Go.RowKit
/-- A goroutine and where its stack lies. -/
structure Pg where
  x : Go
  B : Option Addr
  d : Nat
def pgVals (z : Pg) : List Value := [.int .i64 z.x.th.fn, .int .i64 z.x.th.pc, .int .i64 (z.x.th.regs.getD 0 0), .int .i64 (z.x.th.regs.getD 1 0), .int .i64 (z.x.th.regs.getD 2 0), .int .i64 (z.x.th.regs.getD 3 0), .int .i64 (z.x.th.regs.getD 4 0), .int .i64 (z.x.th.regs.getD 5 0), .int .i64 (z.x.th.regs.getD 6 0), .int .i64 (z.x.th.regs.getD 7 0), .slice z.B z.x.th.stack.length z.d, .bool z.x.th.done, .bool z.x.blk, .bool z.x.tok, .bool z.x.sus, .bool z.x.beg]
theorem pgVals_len (z : Pg) : (pgVals z).length = 16 := rfl
theorem pgVals_one (z : Pg) : ∀ u ∈ pgVals z, u.oneCell' = true := by
  intro u hu
  simp only [pgVals, List.mem_cons, List.not_mem_nil, or_false] at hu
  rcases hu with rfl | rfl | rfl | rfl | rfl | rfl | rfl | rfl | rfl | rfl | rfl | rfl | rfl | rfl | rfl | rfl <;> rfl
theorem pgs_one (rs : List Pg) : ∀ u ∈ rs.flatMap pgVals, u.oneCell' = true := by
  intro u hu
  obtain ⟨z, _, hz⟩ := List.mem_flatMap.1 hu
  exact pgVals_one z u hz
theorem eight {l : List Int} (h : l.length = 8) : l = [l.getD 0 0, l.getD 1 0, l.getD 2 0, l.getD 3 0, l.getD 4 0, l.getD 5 0, l.getD 6 0, l.getD 7 0] := by
  match l, h with
  | [a, b, c, d, e, f, g, h], _ => rfl
theorem pg_go (z : Pg) (h : z.x.th.regs.length = 8) : goArr z.x z.B z.d = (pgVals z).toArray := by
  unfold goArr thArr pgVals
  rw [eight h]
  rfl
/-- A thread's cells are the first ones. -/
theorem pg_th (z : Pg) (h : z.x.th.regs.length = 8) (j : Nat) (hj : j < 12) : (pgVals z)[j]? = (thArr z.x.th z.B z.d)[j]? := by
  rw [← goArr_th z.x z.B z.d h j hj, pg_go z h, List.getElem?_toArray]
/-- The reference's model as a value. -/
def rV (F : Option Addr) (nf fc : Nat) (M : Md) (A : Option Addr) (n c : Nat) : Value := .agg #[.slice F nf fc, .int .i64 M.gs, .slice A n c, .int .i64 M.holder, .int .i64 M.owner]
structure RIs (w : World) (F : Option Addr) (fs : List Fn) (M : Md) (A : Option Addr) (rs : List Pg) : Prop where
  hl : M.l = rs.map (·.x)
  row : Row w w.heap.size A (rs.flatMap pgVals)
  th : ∀ z ∈ rs, ThOk w w.heap.size z.x.th z.B z.d
  few : rs.length ≤ 100
  prog : FnsOk w w.heap.size F fs ∧ fs.length ≤ maxLen
  fits : ∀ z ∈ rs, fitsT fs z.x.th = true
  stk : ∀ z ∈ rs, z.x.th.stack.length ≤ 40
theorem pg_at {w : World} {B : Nat} {A : Option Addr} {rs : List Pg} (h : Row w B A (rs.flatMap pgVals)) {k : Nat} (hk : k < rs.length) :
    ∃ b off, A = some ⟨b, off, none⟩ ∧ b < B ∧ ∀ j v, (pgVals rs[k])[j]? = some v → w.cell? ⟨b, off + k * 16 + j, none⟩ = some v := by
  have hl := flat_length (f := pgVals) (size := 16) pgVals_len rs
  obtain ⟨b, off, e, hb, hc⟩ := h.at_ (k := k * 16) (by rw [hl]; omega)
  refine ⟨b, off, e, hb, fun j v hv => ?_⟩
  rw [Nat.add_assoc]
  exact hc _ _ (flat_at (f := pgVals) (size := 16) pgVals_len rs k j rs[k] v (List.getElem?_eq_getElem hk) hv)
section
variable {w : World} {F : Option Addr} {fs : List Fn} {M : Md} {A : Option Addr} {rs : List Pg}
theorem RIs.len (h : RIs w F fs M A rs) : M.l.length = rs.length := by rw [h.hl, List.length_map]
theorem RIs.goAt (h : RIs w F fs M A rs) {k : Nat} (hk : k < rs.length) : goAt M k = rs[k].x := by
  rw [goAt_eq (by rw [h.len]; exact hk)]
  simp only [h.hl, List.getElem_map]
theorem RIs.step {w' : World} (h : RIs w F fs M A rs) (hb : Below w.heap.size w w') : RIs w' F fs M A rs :=
  ⟨h.hl, (h.row.below hb).more hb.size, fun z hz => (h.th z hz).step hb, h.few, ⟨h.prog.1.step hb, h.prog.2⟩, h.fits, h.stk⟩
/-- Is an id there? -/
def thereB (n : Nat) (r : Int) : Bool := decide (1 ≤ r ∧ r ≤ n)
theorem there_get (M : Md) (r : Int) : thereB M.l.length r = (getM M r).isSome := by
  unfold thereB getM
  by_cases h : 1 ≤ r ∧ r ≤ M.l.length
  · rw [if_pos h, decide_eq_true h]; rfl
  · rw [if_neg h, decide_eq_false h]; rfl
theorem there_any (v0 v1 v3 v4 : Value) (A : Option Addr) (n c : Nat) (r : Int) (w : World) :
    Calls Tryd.prog 58 #[.agg #[v0, v1, .slice A n c, v3, v4], .int .i64 r] w fun e w' => e = .returned (.bool (thereB n r)) ∧ Below w.heap.size w w' := by
  have hb : Below w.heap.size w (w.alloc (.cells #[v0, v1, .slice A n c, v3, v4] 47)) := (Below.refl _ w).alloc (Nat.le_refl _) _
  by_cases h1 : 1 ≤ r
  · by_cases h2 : r ≤ n
    · have e2 : decide (r ≤ (n : Int)) = true := decide_eq_true h2
      have e3 : thereB n r = true := decide_eq_true ⟨h1, h2⟩
      have e1 : decide (1 ≤ r) = true := decide_eq_true h1
      rw [e3]
      clear h1 h2 e3
      go_enter Tryd.func58, Tryd.ntmps58
      go_wp2_with fail
      go_ret
      exact ⟨rfl, hb⟩
    · have e2 : decide (r ≤ (n : Int)) = false := decide_eq_false h2
      have e3 : thereB n r = false := decide_eq_false (fun h => h2 h.2)
      have e1 : decide (1 ≤ r) = true := decide_eq_true h1
      rw [e3]
      clear h1 h2 e3
      go_enter Tryd.func58, Tryd.ntmps58
      go_wp2_with fail
      go_ret
      exact ⟨rfl, hb⟩
  · have e1 : decide (1 ≤ r) = false := decide_eq_false h1
    have e3 : thereB n r = false := decide_eq_false (fun h => h1 h.1)
    rw [e3]
    clear h1 e3
    go_enter Tryd.func58, Tryd.ntmps58
    go_wp2_with fail
    go_ret
    exact ⟨rfl, hb⟩
/-- Does it live? -/
def livesP (M : Md) (r : Int) : Bool := match getM M r with
  | none => false
  | some k => !(Go.Proofs.YtkfpnppppmccdaaDoor.goAt M k).th.done
theorem lives_any {c : Nat} {gs ho ow : Value} {v0 : Value} (h : RIs w F fs M A rs) (r : Int) (n : Nat) (hn : n = rs.length) :
    Calls Tryd.prog 56 #[.agg #[v0, gs, .slice A n c, ho, ow], .int .i64 r] w fun e w' => e = .returned (.bool (livesP M r)) ∧ Below w.heap.size w w' := by
  obtain ⟨W, HW⟩ : ∃ W, Hid (W = w.alloc (.cells #[v0, gs, .slice A n c, ho, ow] 47)) := ⟨_, Lib.hid rfl⟩
  obtain ⟨q, HQ⟩ : ∃ q, Hid (q = w.heap.size) := ⟨_, Lib.hid rfl⟩
  have HBW := Lib.hid (show Below w.heap.size w W by rw [HW.out]; exact (Below.refl w.heap.size w).alloc (Nat.le_refl _) _)
  have HQW := Lib.hid (show Blk W q 47 #[v0, gs, .slice A n c, ho, ow] by rw [HW.out, HQ.out]; exact Blk.new _ _ _)
  have HTH := Lib.hid (fun w' => there_any v0 gs ho ow A n c r w')
  have hw := HW.out
  have hq := HQ.out
  have hfew := h.few
  have ht := there_get M r
  rw [h.len, ← hn] at ht
  rw [ht] at HTH
  clear ht
  unfold livesP
  cases hg : getM M r with
  | none =>
    rw [hg] at HTH
    simp only [Option.isSome_none] at HTH
    clear h hg hn
    go_enter Tryd.func56, Tryd.ntmps56
    go_wp2_with fail
    rw [← hw]
    clear hw hq
    refine (HTH.out _).mono ?_
    rintro e w1 ⟨rfl, hb1⟩
    have HB1 := Lib.hid (HBW.out.trans (hb1.mono HBW.out.size))
    clear hb1
    go_wp2_with fail
    go_ret
    exact ⟨rfl, HB1.out⟩
  | some k =>
    rw [hg] at HTH
    obtain ⟨hkM, rfl⟩ := getM_lt hg
    have hk : k < rs.length := by rw [← h.len]; exact hkM
    obtain ⟨b, off, rfl, hbl, hc⟩ := pg_at h.row hk
    have hd := hc 11 _ rfl
    have hgo := h.goAt hk
    have hkn : k < n := by omega
    have hn100 : n ≤ 100 := by omega
    simp only [Option.isSome_some] at HTH ⊢
    rw [hgo]
    generalize rs[k].x.th.done = dn at hd ⊢
    clear h hg hn hfew hkM hk hgo hc
    go_enter Tryd.func56, Tryd.ntmps56
    go_wp2_with fail
    rw [← hw, ← hq]
    clear hw hq
    refine (HTH.out _).mono ?_
    rintro e w1 ⟨rfl, hb1⟩
    have HB1 := Lib.hid (HBW.out.trans (hb1.mono HBW.out.size))
    have d2 : w1.cell? ⟨q, 2, none⟩ = some (.slice (some ⟨b, off, none⟩) n c) := ((HQW.out.below hb1 HQW.out.lt).cell 2).trans rfl
    have dd : w1.cell? ⟨b, off + k * 16 + 11, none⟩ = some (.bool dn) := (Below.cell (p := ⟨b, off + k * 16 + 11, none⟩) HB1.out hbl).trans hd
    clear hb1 hd hbl
    cases dn <;>
    · go_wp2_with fail
      go_ret
      exact ⟨rfl, HB1.out⟩
theorem Tryd.infoG (z : Pg) : (Tryd.prog.info? 77).map (·.size) = some (pgVals z).toArray.size := by
  have h : (Tryd.prog.info? 77).map (·.size) = some 16 := by kernel_rfl
  exact h
theorem pgArr_one (z : Pg) : (pgVals z).toArray.all (·.oneCell') = true := by
  rw [Array.all_eq_true_iff_forall_mem]
  intro u hu
  exact pgVals_one z u (by simpa using hu)
theorem wpList_load_cellsW {P : Program} {ops : Array Oper} {rest : List Oper} {o : Oper} {a : Act} {w : World} {Q : Exit → Act → World → Prop} (hw : Region.wanted o (yielded ops a.tmps) = true) (ty : TypeId) (x : Operand) (ho : o.op = .load ty x)
    (g off : Nat) (hx : a.eval x = .pointer (some ⟨g, off, none⟩)) (cs : Array Value) (d : TypeDesc) (hs : ∀ j v, cs[j]? = some v → w.cell? ⟨g, off + j, none⟩ = some v)
    (hu : P.underlying ty = some d) (hd : (match d with | .struct _ | .array _ _ => true | _ => false) = true) (hi : (P.info? ty).map (·.size) = some cs.size)
    (h : wpList P ops Q rest (a.put o.dst (.agg cs)) w) : wpList P ops Q (o :: rest) a w :=
  wpList_wanted hw fun _ hK => by
    unfold Oper.wp execOp
    simp only [ho, hx, Instr.loadAt, Instr.sureAddr, Sem.run_bind, Sem.run_pure, Result.andThen_ok, run_loadVar_cells w g off ty cs d hs hu hd hi]
    exact hK _ _ h
set_option maxRecDepth 10000 in
set_option maxHeartbeats 2000000 in
theorem racts_any {c n : Nat} {v0 gs : Value} (h : RIs w F fs M A rs) (hn : n = rs.length) (g : Int) :
    Calls Tryd.prog 37 #[.agg #[v0, gs, .slice A n c, .int .i64 M.holder, .int .i64 M.owner], .int .i64 g] w fun e w' => e = .returned (.bool (actsP M g)) ∧ Below w.heap.size w w' := by
  obtain ⟨W, HW⟩ : ∃ W, Hid (W = w.alloc (.cells #[v0, gs, .slice A n c, .int .i64 M.holder, .int .i64 M.owner] 47)) := ⟨_, Lib.hid rfl⟩
  obtain ⟨q, HQ⟩ : ∃ q, Hid (q = w.heap.size) := ⟨_, Lib.hid rfl⟩
  have HBW := Lib.hid (show Below w.heap.size w W by rw [HW.out]; exact (Below.refl w.heap.size w).alloc (Nat.le_refl _) _)
  have HQW := Lib.hid (show Blk W q 47 #[v0, gs, .slice A n c, .int .i64 M.holder, .int .i64 M.owner] by rw [HW.out, HQ.out]; exact Blk.new _ _ _)
  have HLV := Lib.hid (lives_any (c := c) (v0 := v0) (gs := gs) (ho := .int .i64 M.holder) (ow := .int .i64 M.owner) (h.step HBW.out) g n hn)
  have hw := HW.out
  have hq := HQ.out
  obtain ⟨lv, HLE⟩ : ∃ x, Hid (x = livesP M g) := ⟨_, Lib.hid rfl⟩
  rw [← HLE.out] at HLV
  cases lv with
  | false =>
    have HP := Lib.hid (show actsP M g = false by
      have := HLE.out
      unfold livesP at this
      unfold actsP
      cases hg : getM M g with
      | none => rfl
      | some k =>
        rw [hg] at this
        simp only at this ⊢
        rw [← this, Bool.false_and])
    rw [HP.out]
    clear h hn
    go_enter Tryd.func37, Tryd.ntmps37
    go_wp2_with fail
    rw [← hw]
    clear hw hq
    refine HLV.out.mono ?_
    rintro e w1 ⟨rfl, hb1⟩
    have HB1 := Lib.hid (HBW.out.trans (hb1.mono HBW.out.size))
    clear hb1
    go_wp2_with fail
    go_ret
    exact ⟨rfl, HB1.out⟩
  | true =>
    obtain ⟨k, hg⟩ : ∃ k, getM M g = some k := by
      have := HLE.out
      unfold livesP at this
      cases hg : getM M g with
      | none => rw [hg] at this; cases this
      | some k => exact ⟨k, rfl⟩
    obtain ⟨hkM, rfl⟩ := getM_lt hg
    have hk : k < rs.length := by rw [← h.len]; exact hkM
    obtain ⟨b, off, rfl, hbl, hc⟩ := pg_at h.row hk
    have hgo := h.goAt hk
    have hfew := h.few
    have hkn : k < n := by omega
    have hn100 : n ≤ 100 := by omega
    have HP := Lib.hid (show actsP M (k + 1) = (!rs[k].x.blk && (!rs[k].x.sus && (decide (M.holder = 0) || decide (M.holder = k + 1)))) by
      have := HLE.out
      unfold livesP at this
      unfold actsP
      rw [hg] at this ⊢
      simp only at this ⊢
      rw [← this, Bool.true_and, hgo])
    rw [HP.out]
    obtain ⟨z, HZ⟩ : ∃ z, Hid (z = rs[k]) := ⟨_, Lib.hid rfl⟩
    rw [← HZ.out] at hc ⊢
    have HC := Lib.hid (show ∀ w', Below W.heap.size W w' → ∀ j v, (pgVals z).toArray[j]? = some v → w'.cell? ⟨b, off + k * 16 + j, none⟩ = some v from fun w' h j v hv => (Below.cell (p := ⟨b, off + k * 16 + j, none⟩) (HBW.out.trans (h.mono HBW.out.size)) hbl).trans (hc j v (by simpa using hv)))
    clear HP HZ
    clear h hg hn hfew hkM hk hgo hc hbl
    rcases hbk : z.x.blk with _ | _ <;> rcases hsu : z.x.sus with _ | _
    · by_cases h0 : M.holder = 0
      · have e0 : (M.holder == 0) = true := by simpa using h0
        have e1 : decide (M.holder = 0) = true := decide_eq_true h0
        rw [e1]
        clear h0 e1
        go_enter Tryd.func37, Tryd.ntmps37
        go_wp2_with fail
        rw [← hw, ← hq]
        clear hw hq
        refine HLV.out.mono ?_
        rintro e w1 ⟨rfl, hb1⟩
        have d2 : w1.cell? ⟨q, 2, none⟩ = some (.slice (some ⟨b, off, none⟩) n c) := ((HQW.out.below hb1 HQW.out.lt).cell 2).trans rfl
        have HC1 := Lib.hid (HC.out w1 hb1)
        have HQ1 := Lib.hid (HQW.out.below hb1 HQW.out.lt)
        have HB1 := Lib.hid (HBW.out.trans (hb1.mono HBW.out.size))
        clear hb1
        obtain ⟨w2, HW2⟩ : ∃ X, Hid (X = (w1.alloc (.cells #[.int .i64 0, .int .i64 0, .int .i64 0, .int .i64 0, .int .i64 0, .int .i64 0, .int .i64 0, .int .i64 0, .int .i64 0, .int .i64 0, .slice none 0 0, .bool false, .bool false, .bool false, .bool false, .bool false] 77)).setRow w1.heap.size (pgVals z).toArray) := ⟨_, Lib.hid rfl⟩
        have HB2 := Lib.hid (show Below w.heap.size w w2 by rw [HW2.out]; exact below_setRow (HB1.out.alloc HB1.out.size _) HB1.out.size (HB1.out.alloc HB1.out.size _).size _)
        have hx2 : Blk w2 w1.heap.size 77 (pgVals z).toArray := by rw [HW2.out]; exact (Blk.new w1 _ _).setRow _
        have hq2 : Blk w2 q 47 #[v0, gs, .slice (some ⟨b, off, none⟩) n c, .int .i64 M.holder, .int .i64 M.owner] := by rw [HW2.out]; exact (HQ1.out.alloc _).farRow (fun e => by have := HQ1.out.lt; omega) _
        have x12 : w2.cell? ⟨w1.heap.size, 12, none⟩ = some (.bool z.x.blk) := (hx2.cell 12).trans rfl
        have x14 : w2.cell? ⟨w1.heap.size, 14, none⟩ = some (.bool z.x.sus) := (hx2.cell 14).trans rfl
        have m3 : w2.cell? ⟨q, 3, none⟩ = some (.int .i64 M.holder) := (hq2.cell 3).trans rfl
        clear hx2 hq2
        rw [hbk] at x12
        rw [hsu] at x14
        clear hbk hsu
        go_upto_region 4 with (first | (refine wpList_load_cellsW (by rfl) 77 _ rfl b (off + k * 16) rfl (pgVals z).toArray _ HC1.out Tryd.underlying77 rfl (Tryd.infoG z) ?_) | (refine wpList_store_row rfl 77 _ _ rfl w1.heap.size (pgVals z).toArray rfl rfl 77 _ (Blk.new w1 _ _) (Tryd.infoG z) rfl (pgArr_one z) ?_; rw [← HW2.out]))
        go_wp2_with fail
        go_ret
        exact ⟨rfl, HB2.out⟩
      · have e0 : (M.holder == 0) = false := by simpa using h0
        have e1 : decide (M.holder = 0) = false := decide_eq_false h0
        rw [e1]
        clear h0 e1
        by_cases hg : M.holder = k + 1
        · have e2 : (M.holder == (k : Int) + 1) = true := by simpa using hg
          have e1 : decide (M.holder = (k : Int) + 1) = true := decide_eq_true hg
          rw [e1]
          clear hg e1
          go_enter Tryd.func37, Tryd.ntmps37
          go_wp2_with fail
          rw [← hw, ← hq]
          clear hw hq
          refine HLV.out.mono ?_
          rintro e w1 ⟨rfl, hb1⟩
          have d2 : w1.cell? ⟨q, 2, none⟩ = some (.slice (some ⟨b, off, none⟩) n c) := ((HQW.out.below hb1 HQW.out.lt).cell 2).trans rfl
          have HC1 := Lib.hid (HC.out w1 hb1)
          have HQ1 := Lib.hid (HQW.out.below hb1 HQW.out.lt)
          have HB1 := Lib.hid (HBW.out.trans (hb1.mono HBW.out.size))
          clear hb1
          obtain ⟨w2, HW2⟩ : ∃ X, Hid (X = (w1.alloc (.cells #[.int .i64 0, .int .i64 0, .int .i64 0, .int .i64 0, .int .i64 0, .int .i64 0, .int .i64 0, .int .i64 0, .int .i64 0, .int .i64 0, .slice none 0 0, .bool false, .bool false, .bool false, .bool false, .bool false] 77)).setRow w1.heap.size (pgVals z).toArray) := ⟨_, Lib.hid rfl⟩
          have HB2 := Lib.hid (show Below w.heap.size w w2 by rw [HW2.out]; exact below_setRow (HB1.out.alloc HB1.out.size _) HB1.out.size (HB1.out.alloc HB1.out.size _).size _)
          have hx2 : Blk w2 w1.heap.size 77 (pgVals z).toArray := by rw [HW2.out]; exact (Blk.new w1 _ _).setRow _
          have hq2 : Blk w2 q 47 #[v0, gs, .slice (some ⟨b, off, none⟩) n c, .int .i64 M.holder, .int .i64 M.owner] := by rw [HW2.out]; exact (HQ1.out.alloc _).farRow (fun e => by have := HQ1.out.lt; omega) _
          have x12 : w2.cell? ⟨w1.heap.size, 12, none⟩ = some (.bool z.x.blk) := (hx2.cell 12).trans rfl
          have x14 : w2.cell? ⟨w1.heap.size, 14, none⟩ = some (.bool z.x.sus) := (hx2.cell 14).trans rfl
          have m3 : w2.cell? ⟨q, 3, none⟩ = some (.int .i64 M.holder) := (hq2.cell 3).trans rfl
          clear hx2 hq2
          rw [hbk] at x12
          rw [hsu] at x14
          clear hbk hsu
          go_upto_region 4 with (first | (refine wpList_load_cellsW (by rfl) 77 _ rfl b (off + k * 16) rfl (pgVals z).toArray _ HC1.out Tryd.underlying77 rfl (Tryd.infoG z) ?_) | (refine wpList_store_row rfl 77 _ _ rfl w1.heap.size (pgVals z).toArray rfl rfl 77 _ (Blk.new w1 _ _) (Tryd.infoG z) rfl (pgArr_one z) ?_; rw [← HW2.out]))
          go_wp2_with fail
          go_ret
          exact ⟨rfl, HB2.out⟩
        · have e2 : (M.holder == (k : Int) + 1) = false := by simpa using hg
          have e1 : decide (M.holder = (k : Int) + 1) = false := decide_eq_false hg
          rw [e1]
          clear hg e1
          go_enter Tryd.func37, Tryd.ntmps37
          go_wp2_with fail
          rw [← hw, ← hq]
          clear hw hq
          refine HLV.out.mono ?_
          rintro e w1 ⟨rfl, hb1⟩
          have d2 : w1.cell? ⟨q, 2, none⟩ = some (.slice (some ⟨b, off, none⟩) n c) := ((HQW.out.below hb1 HQW.out.lt).cell 2).trans rfl
          have HC1 := Lib.hid (HC.out w1 hb1)
          have HQ1 := Lib.hid (HQW.out.below hb1 HQW.out.lt)
          have HB1 := Lib.hid (HBW.out.trans (hb1.mono HBW.out.size))
          clear hb1
          obtain ⟨w2, HW2⟩ : ∃ X, Hid (X = (w1.alloc (.cells #[.int .i64 0, .int .i64 0, .int .i64 0, .int .i64 0, .int .i64 0, .int .i64 0, .int .i64 0, .int .i64 0, .int .i64 0, .int .i64 0, .slice none 0 0, .bool false, .bool false, .bool false, .bool false, .bool false] 77)).setRow w1.heap.size (pgVals z).toArray) := ⟨_, Lib.hid rfl⟩
          have HB2 := Lib.hid (show Below w.heap.size w w2 by rw [HW2.out]; exact below_setRow (HB1.out.alloc HB1.out.size _) HB1.out.size (HB1.out.alloc HB1.out.size _).size _)
          have hx2 : Blk w2 w1.heap.size 77 (pgVals z).toArray := by rw [HW2.out]; exact (Blk.new w1 _ _).setRow _
          have hq2 : Blk w2 q 47 #[v0, gs, .slice (some ⟨b, off, none⟩) n c, .int .i64 M.holder, .int .i64 M.owner] := by rw [HW2.out]; exact (HQ1.out.alloc _).farRow (fun e => by have := HQ1.out.lt; omega) _
          have x12 : w2.cell? ⟨w1.heap.size, 12, none⟩ = some (.bool z.x.blk) := (hx2.cell 12).trans rfl
          have x14 : w2.cell? ⟨w1.heap.size, 14, none⟩ = some (.bool z.x.sus) := (hx2.cell 14).trans rfl
          have m3 : w2.cell? ⟨q, 3, none⟩ = some (.int .i64 M.holder) := (hq2.cell 3).trans rfl
          clear hx2 hq2
          rw [hbk] at x12
          rw [hsu] at x14
          clear hbk hsu
          go_upto_region 4 with (first | (refine wpList_load_cellsW (by rfl) 77 _ rfl b (off + k * 16) rfl (pgVals z).toArray _ HC1.out Tryd.underlying77 rfl (Tryd.infoG z) ?_) | (refine wpList_store_row rfl 77 _ _ rfl w1.heap.size (pgVals z).toArray rfl rfl 77 _ (Blk.new w1 _ _) (Tryd.infoG z) rfl (pgArr_one z) ?_; rw [← HW2.out]))
          go_wp2_with fail
          go_ret
          exact ⟨rfl, HB2.out⟩
    all_goals
      go_enter Tryd.func37, Tryd.ntmps37
      go_wp2_with fail
      rw [← hw, ← hq]
      clear hw hq
      refine HLV.out.mono ?_
      rintro e w1 ⟨rfl, hb1⟩
      have d2 : w1.cell? ⟨q, 2, none⟩ = some (.slice (some ⟨b, off, none⟩) n c) := ((HQW.out.below hb1 HQW.out.lt).cell 2).trans rfl
      have HC1 := Lib.hid (HC.out w1 hb1)
      have HQ1 := Lib.hid (HQW.out.below hb1 HQW.out.lt)
      have HB1 := Lib.hid (HBW.out.trans (hb1.mono HBW.out.size))
      clear hb1
      obtain ⟨w2, HW2⟩ : ∃ X, Hid (X = (w1.alloc (.cells #[.int .i64 0, .int .i64 0, .int .i64 0, .int .i64 0, .int .i64 0, .int .i64 0, .int .i64 0, .int .i64 0, .int .i64 0, .int .i64 0, .slice none 0 0, .bool false, .bool false, .bool false, .bool false, .bool false] 77)).setRow w1.heap.size (pgVals z).toArray) := ⟨_, Lib.hid rfl⟩
      have HB2 := Lib.hid (show Below w.heap.size w w2 by rw [HW2.out]; exact below_setRow (HB1.out.alloc HB1.out.size _) HB1.out.size (HB1.out.alloc HB1.out.size _).size _)
      have hx2 : Blk w2 w1.heap.size 77 (pgVals z).toArray := by rw [HW2.out]; exact (Blk.new w1 _ _).setRow _
      have hq2 : Blk w2 q 47 #[v0, gs, .slice (some ⟨b, off, none⟩) n c, .int .i64 M.holder, .int .i64 M.owner] := by rw [HW2.out]; exact (HQ1.out.alloc _).farRow (fun e => by have := HQ1.out.lt; omega) _
      have x12 : w2.cell? ⟨w1.heap.size, 12, none⟩ = some (.bool z.x.blk) := (hx2.cell 12).trans rfl
      have x14 : w2.cell? ⟨w1.heap.size, 14, none⟩ = some (.bool z.x.sus) := (hx2.cell 14).trans rfl
      have m3 : w2.cell? ⟨q, 3, none⟩ = some (.int .i64 M.holder) := (hq2.cell 3).trans rfl
      clear hx2 hq2
      rw [hbk] at x12
      rw [hsu] at x14
      clear hbk hsu
      go_upto_region 4 with (first | (refine wpList_load_cellsW (by rfl) 77 _ rfl b (off + k * 16) rfl (pgVals z).toArray _ HC1.out Tryd.underlying77 rfl (Tryd.infoG z) ?_) | (refine wpList_store_row rfl 77 _ _ rfl w1.heap.size (pgVals z).toArray rfl rfl 77 _ (Blk.new w1 _ _) (Tryd.infoG z) rfl (pgArr_one z) ?_; rw [← HW2.out]))
      go_wp2_with fail
      go_ret
      exact ⟨rfl, HB2.out⟩
end
end Go.Proofs.YtkfpnppppmccdaaDoor

/-
  Chapter 27, the reference's model: resume, ready, suspend.
-/
import Derived.Test.YtkfpnppppmccdaaDoorRcp27
namespace Go.Proofs.YtkfpnppppmccdaaDoor
open Go.RowKit
theorem flat_set {j : Nat} {u : Value} (hj : j < 16) : ∀ (rs : List Pg) (k : Nat) (hk : k < rs.length) (z' : Pg), (pgVals rs[k]).set j u = pgVals z' → (rs.flatMap pgVals).set (k * 16 + j) u = (rs.set k z').flatMap pgVals
  | [], k, hk, _, _ => absurd hk (Nat.not_lt_zero k)
  | a :: l, 0, _, z', h => by
    have h' : (pgVals a).set j u = pgVals z' := h
    simp only [List.set_cons_zero, List.flatMap_cons, Nat.zero_mul, Nat.zero_add]
    rw [List.set_append_left _ _ (by rw [pgVals_len]; exact hj), h']
  | a :: l, k + 1, hk, z', h => by
    have h' : (pgVals (l[k]'(by simpa using hk))).set j u = pgVals z' := h
    simp only [List.set_cons_succ, List.flatMap_cons]
    rw [List.set_append_right _ _ (by rw [pgVals_len]; omega), pgVals_len, show (k + 1) * 16 + j - 16 = k * 16 + j by omega, flat_set hj l k (by simpa using hk) z' h']
/-- A goroutine in a row of one's own. -/
theorem own_pg {w : World} {base n c : Nat} {A : Option Addr} {rs : List Pg} (h : Own w base 77 16 A n c (rs.flatMap pgVals)) (hn : n = rs.length) {k : Nat} (hk : k < rs.length) :
    ∃ g, A = some ⟨g, 0, none⟩ ∧ base ≤ g ∧ g < w.heap.size ∧ (∀ j v, (pgVals rs[k])[j]? = some v → w.cell? ⟨g, k * 16 + j, none⟩ = some v) ∧ (∀ j, w.frozen? ⟨g, k * 16 + j, none⟩ = false) ∧
      ∀ j u z', j < 16 → (pgVals rs[k]).set j u = pgVals z' → Own (w.setCell ⟨g, k * 16 + j, none⟩ u) base 77 16 A n c ((rs.set k z').flatMap pgVals) ∧ Below base w (w.setCell ⟨g, k * 16 + j, none⟩ u) := by
  have hlen := flat_length (f := pgVals) (size := 16) pgVals_len rs
  have hA : ∃ g, A = some ⟨g, 0, none⟩ := by
    rcases h.2 with ⟨hv, h0⟩ | ⟨g, cap, cur, hv, _⟩
    · omega
    · injection hv with hA
      exact ⟨g, hA⟩
  obtain ⟨g, rfl⟩ := hA
  have hl := h.lt g rfl
  refine ⟨g, rfl, hl.1, hl.2, fun j v hv => ?_, fun j => World.ownsRow.frozenAt h _, fun j u z' hj hz => ?_⟩
  · have hj : j < 16 := by
      have := (List.getElem?_eq_some_iff.1 hv).1
      rwa [pgVals_len] at this
    rw [World.ownsRow.cellAt h (k * 16 + j) (by omega)]
    exact flat_at (f := pgVals) (size := 16) pgVals_len rs k j rs[k] v (List.getElem?_eq_getElem hk) hv
  · have h2 := World.ownsRow.stored h (k * 16 + j) u
    rw [flat_set hj rs k hk z' hz] at h2
    refine ⟨h2.1, ?_⟩
    have hb : Below base w w := Below.refl _ _
    exact hb.setCell (p := ⟨g, k * 16 + j, none⟩) hl.1 _
theorem own_setRow_ne {w : World} {base g : Nat} {e : TypeId} {size n c : Nat} {A : Option Addr} {xs : List Value} (h : Own w base e size A n c xs) (hl : ∀ k, ob A = some k → k < g) (cs : Array Value) : Own (w.setRow g cs) base e size A n c xs := by
  refine Own.kept h (grown_setRow _ _ _) ?_
  cases hX : ob A with
  | none => exact .inl rfl
  | some k =>
    refine .inr fun e => ?_
    have := hl k hX
    injection e with e
    omega
theorem mv_newRow {L : List Nat} {w w' : World} {r : Nat} (h : Mv L w w') (hr : w.heap.size ≤ r) (cs : Array Value) : Mv L w (w'.setRow r cs) :=
  ⟨h.os, h.tape, h.output, by rw [setRow_size]; exact h.size, fun k hk hn => (heap_setRow w' r cs k (fun e => by omega)).trans (h.block k hk hn)⟩
theorem mv_newCell {L : List Nat} {w w' : World} {p : Addr} (h : Mv L w w') (hr : w.heap.size ≤ p.block) (v : Value) : Mv L w (w'.setCell p v) :=
  ⟨h.os, h.tape, h.output, by simp only [World.size_setCell]; exact h.size, fun k hk hn => (Below.heap_setCell w' p v k (fun e => by omega)).trans (h.block k hk hn)⟩
/-- Which goroutine an id names, of n. -/
def getN (n : Nat) (r : Int) : Option Nat := if 1 ≤ r ∧ r ≤ n then some (r - 1).toNat else none
theorem getN_lt {n : Nat} {r : Int} {k : Nat} (h : getN n r = some k) : k < n ∧ r = k + 1 := by
  unfold getN at h
  split at h
  · injection h with h
    omega
  · cases h
theorem there_getN (n : Nat) (r : Int) : thereB n r = (getN n r).isSome := by
  unfold thereB getN
  by_cases h : 1 ≤ r ∧ r ≤ n
  · rw [if_pos h, decide_eq_true h]; rfl
  · rw [if_neg h, decide_eq_false h]; rfl
def resuR (rs : List Pg) (r : Int) : List Pg × Int := match getN rs.length r with
  | none => (rs, 0)
  | some k => match rs[k]? with
    | none => (rs, 0)
    | some z => if z.x.sus = true then (rs.set k { z with x := { z.x with sus := false } }, 1) else (rs, 0)
set_option maxRecDepth 10000 in
set_option maxHeartbeats 1000000 in
theorem resume_any27 {w : World} {base n c nf fc : Nat} {F A : Option Addr} {rs : List Pg} {gs ho ow : Int} (hO : Own w base 77 16 A n c (rs.flatMap pgVals)) (hn : n = rs.length) (hn100 : n ≤ 100) (r : Int) :
    Calls Tryd.prog 81 #[.agg #[.slice F nf fc, .int .i64 gs, .slice A n c, .int .i64 ho, .int .i64 ow], .int .i64 r] w fun e w' =>
      e = .returned (.tuple #[.agg #[.slice F nf fc, .int .i64 gs, .slice A n c, .int .i64 ho, .int .i64 ow], .int .i64 (resuR rs r).2]) ∧ Own w' base 77 16 A n c ((resuR rs r).1.flatMap pgVals) ∧ Mv (ob A).toList w w' := by
  have HTH := Lib.hid (fun w' => there_any (.slice F nf fc) (.int .i64 gs) (.int .i64 ho) (.int .i64 ow) A n c r w')
  obtain ⟨RV, HRV⟩ : ∃ V, Hid (V = (#[.slice F nf fc, .int .i64 gs, .slice A n c, .int .i64 ho, .int .i64 ow] : Array Value)) := ⟨_, Lib.hid rfl⟩
  rw [← HRV.out] at HTH ⊢
  have HRI := Lib.hid (show (Tryd.prog.info? 47).map (·.size) = some RV.size by rw [HRV.out]; exact Tryd.infoRm _ _ _ _ _)
  have HR5 := Lib.hid (show 5 = RV.size by rw [HRV.out]; rfl)
  have HR1 := Lib.hid (show RV.all (·.oneCell') = true by rw [HRV.out]; simp [Value.oneCell'])
  have h2 : RV[2]? = some (.slice A n c) := by rw [HRV.out]; rfl
  obtain ⟨q, HQ⟩ : ∃ q, Hid (q = w.heap.size) := ⟨_, Lib.hid rfl⟩
  obtain ⟨W, HW⟩ : ∃ W, Hid (W = (w.alloc (.cells RV 47)).alloc (.cells #[.slice none 0 0, .int .i64 0, .slice none 0 0, .int .i64 0, .int .i64 0] 47)) := ⟨_, Lib.hid rfl⟩
  have HBW := Lib.hid (show Below w.heap.size w W by rw [HW.out]; exact below2 w _ _)
  have HQ1 := Lib.hid (show Blk W q 47 RV by rw [HW.out, HQ.out]; exact (Blk.new w _ _).alloc _)
  have HQ2 := Lib.hid (show Blk W (q + 1) 47 #[.slice none 0 0, .int .i64 0, .slice none 0 0, .int .i64 0, .int .i64 0] by rw [HW.out, HQ.out]; exact heap_alloc2_new w _ _)
  rw [there_getN] at HTH
  have hw := HW.out
  have hq := HQ.out
  go_enter Tryd.func81, Tryd.ntmps81
  go_wp2_with (rw [← hw, ← hq]; clear hw hq; refine wpList_load_row rfl 47 _ rfl q rfl 47 RV (0, 0) _ HQ1.out Tryd.underlying47 rfl HRI.out ?_)
  refine (HTH.out W).mono ?_
  rintro e w1 ⟨rfl, hb1⟩
  have HQ11 := Lib.hid (HQ1.out.below hb1 HQ1.out.lt)
  have HQ12 := Lib.hid (HQ2.out.below hb1 HQ2.out.lt)
  have HB1 := Lib.hid (HBW.out.trans (hb1.mono HBW.out.size))
  have HO1 := Lib.hid (own_below hO HB1.out)
  have hOl : ∀ k, ob A = some k → k < w.heap.size := fun k hk => (hO.lt k hk).2
  have m2 : w1.cell? ⟨q, 2, none⟩ = some (.slice A n c) := (HQ11.out.cell 2).trans h2
  clear hb1 h2 hO
  have HOL := Lib.hid (show ∀ k, ob A = some k → k < q from fun k hk => by have := hOl k hk; have := HQ.out; omega)
  clear hOl
  cases hg : getN n r with
  | none =>
    have HP := Lib.hid (show resuR rs r = (rs, 0) by unfold resuR; rw [← hn, hg])
    simp only [Option.isSome_none]
    clear hg
    go_upto_region 2 with (fail)
    go_wp2_with (first | (refine wpList_load_row rfl 47 _ rfl q rfl 47 RV (0, 0) _ HQ11.out Tryd.underlying47 rfl HRI.out ?_) | (refine wpList_store_row rfl 47 _ _ rfl (q + 1) RV rfl rfl 47 _ HQ12.out HRI.out HR5.out HR1.out ?_))
    refine bodyPost_ret (results_cell2 Tryd.results81 _ _ (q + 1) 47 RV (0, 0) _ rfl (HQ12.out.setRow _) Tryd.underlying47 rfl HRI.out) rfl ?_
    exact ⟨by rw [HP.out]; rfl, by rw [HP.out]; exact own_setRow_ne HO1.out (fun k hk => Nat.lt_succ_of_lt (HOL.out k hk)) _, mv_newRow (Mv.of_below HB1.out (Nat.le_refl _)) (by rw [HQ.out]; omega) _⟩
  | some k =>
    obtain ⟨hkn, rfl⟩ := getN_lt hg
    have hk : k < rs.length := by omega
    obtain ⟨g, rfl, hgb, hgl, hc, hfz, hset⟩ := own_pg HO1.out hn hk
    have x14 := hc 14 _ rfl
    have f14 := hfz 14
    have HST := Lib.hid (hset 14)
    obtain ⟨z, HZ⟩ : ∃ z, Hid (z = rs[k]) := ⟨_, Lib.hid rfl⟩
    have hzk : rs[k]? = some z := by rw [List.getElem?_eq_getElem hk, HZ.out]
    rw [← HZ.out] at x14 HST
    simp only [Option.isSome_some]
    have HGL := Lib.hid hgl
    cases hsu : z.x.sus with
    | false =>
      have HP := Lib.hid (show resuR rs (k + 1) = (rs, 0) by unfold resuR; rw [← hn, hg]; simp only; rw [hzk]; simp only; rw [if_neg (by rw [hsu]; decide)])
      rw [hsu] at x14
      clear hg hn hk hc hfz hset hzk hsu HZ f14
      go_upto_region 2 with (fail)
      go_wp2_with (first | (refine wpList_load_row rfl 47 _ rfl q rfl 47 RV (0, 0) _ HQ11.out Tryd.underlying47 rfl HRI.out ?_) | (refine wpList_store_row rfl 47 _ _ rfl (q + 1) RV rfl rfl 47 _ HQ12.out HRI.out HR5.out HR1.out ?_))
      refine bodyPost_ret (results_cell2 Tryd.results81 _ _ (q + 1) 47 RV (0, 0) _ rfl (HQ12.out.setRow _) Tryd.underlying47 rfl HRI.out) rfl ?_
      exact ⟨by rw [HP.out]; rfl, by rw [HP.out]; exact own_setRow_ne HO1.out (fun k hk => Nat.lt_succ_of_lt (HOL.out k hk)) _, mv_newRow (Mv.of_below HB1.out (Nat.le_refl _)) (by rw [HQ.out]; omega) _⟩
    | true =>
      have HP := Lib.hid (show resuR rs (k + 1) = (rs.set k { z with x := { z.x with sus := false } }, 1) by unfold resuR; rw [← hn, hg]; simp only; rw [hzk]; simp only; rw [if_pos hsu])
      rw [hsu] at x14
      obtain ⟨ho2, hb2⟩ := HST.out (.bool false) { z with x := { z.x with sus := false } } (by decide) rfl
      obtain ⟨w2, HW2⟩ : ∃ V, Hid (V = w1.setCell ⟨g, k * 16 + 14, none⟩ (.bool false)) := ⟨_, Lib.hid rfl⟩
      have hw2 := HW2.out
      rw [← HW2.out] at ho2 hb2
      have hgq : q ≠ g := fun e => by have := HOL.out g rfl; omega
      have HQ21 := Lib.hid (show Blk w2 q 47 RV by rw [HW2.out]; exact HQ11.out.far (p := ⟨g, k * 16 + 14, none⟩) hgq _)
      have HQ22 := Lib.hid (show Blk w2 (q + 1) 47 _ by rw [HW2.out]; exact HQ12.out.far (p := ⟨g, k * 16 + 14, none⟩) (fun e => by have := HOL.out g rfl; have e2 : q + 1 = g := e; omega) _)
      have HO2 := Lib.hid ho2
      have HB2 := Lib.hid (show Mv (ob (some ⟨g, 0, none⟩)).toList w w2 by rw [HW2.out]; exact (Mv.of_below HB1.out (Nat.le_refl _)).set _ _ (by simp [ob]))
      clear hg hn hk hc hfz hset hzk hsu HZ ho2 hb2
      go_upto_region 4 with (fail)
      go_wp2_with (first | (rw [← hw2]; clear hw2; refine wpList_load_row rfl 47 _ rfl q rfl 47 RV (0, 0) _ HQ21.out Tryd.underlying47 rfl HRI.out ?_) | (refine wpList_store_row rfl 47 _ _ rfl (q + 1) RV rfl rfl 47 _ HQ22.out HRI.out HR5.out HR1.out ?_))
      refine bodyPost_ret (results_cell2 Tryd.results81 _ _ (q + 1) 47 RV (0, 0) _ rfl (HQ22.out.setRow _) Tryd.underlying47 rfl HRI.out) rfl ?_
      exact ⟨by rw [HP.out]; rfl, by rw [HP.out]; exact own_setRow_ne HO2.out (fun k hk => Nat.lt_succ_of_lt (HOL.out k hk)) _, mv_newRow HB2.out (by rw [HQ.out]; omega) _⟩
end Go.Proofs.YtkfpnppppmccdaaDoor

/-
  Chapter 27, the reference's model: ready, suspend (printed by rsu27.py).
-/
import Derived.Test.YtkfpnppppmccdaaDoorRsu27
namespace Go.Proofs.YtkfpnppppmccdaaDoor
open Go.RowKit
def livesR (rs : List Pg) (r : Int) : Bool := match getN rs.length r with
  | none => false
  | some k => match rs[k]? with
    | none => false
    | some z => !z.x.th.done
theorem lives_row {w : World} {A : Option Addr} {rs : List Pg} {c : Nat} {gs ho ow : Value} {v0 : Value} (h : Row w w.heap.size A (rs.flatMap pgVals)) (hfew : rs.length ≤ 100) (r : Int) (n : Nat) (hn : n = rs.length) :
    Calls Tryd.prog 56 #[.agg #[v0, gs, .slice A n c, ho, ow], .int .i64 r] w fun e w' => e = .returned (.bool (livesR rs r)) ∧ Below w.heap.size w w' := by
  obtain ⟨W, HW⟩ : ∃ W, Hid (W = w.alloc (.cells #[v0, gs, .slice A n c, ho, ow] 47)) := ⟨_, Lib.hid rfl⟩
  obtain ⟨q, HQ⟩ : ∃ q, Hid (q = w.heap.size) := ⟨_, Lib.hid rfl⟩
  have HBW := Lib.hid (show Below w.heap.size w W by rw [HW.out]; exact (Below.refl w.heap.size w).alloc (Nat.le_refl _) _)
  have HQW := Lib.hid (show Blk W q 47 #[v0, gs, .slice A n c, ho, ow] by rw [HW.out, HQ.out]; exact Blk.new _ _ _)
  have HTH := Lib.hid (fun w' => there_any v0 gs ho ow A n c r w')
  have hw := HW.out
  have hq := HQ.out
  have ht := there_getN n r
  rw [ht] at HTH
  clear ht
  unfold livesR
  rw [← hn]
  cases hg : getN n r with
  | none =>
    rw [hg] at HTH
    simp only [Option.isSome_none] at HTH
    clear h hg hn
    go_enter Tryd.func56, Tryd.ntmps56
    go_wp2_with fail
    rw [← hw]
    clear hw hq
    refine (HTH.out _).mono ?_
    rintro e w1 ⟨rfl, hb1⟩
    have HB1 := Lib.hid (HBW.out.trans (hb1.mono HBW.out.size))
    clear hb1
    go_wp2_with fail
    go_ret
    exact ⟨rfl, HB1.out⟩
  | some k =>
    rw [hg] at HTH
    obtain ⟨hkM, rfl⟩ := getN_lt hg
    have hk : k < rs.length := by omega
    obtain ⟨b, off, rfl, hbl, hc⟩ := pg_at h hk
    have hd := hc 11 _ rfl
    have hgo : rs[k]? = some rs[k] := List.getElem?_eq_getElem hk
    have hkn : k < n := by omega
    have hn100 : n ≤ 100 := by omega
    simp only [Option.isSome_some] at HTH
    simp only [hgo]
    generalize rs[k].x.th.done = dn at hd ⊢
    clear h hg hn hfew hkM hk hgo hc
    go_enter Tryd.func56, Tryd.ntmps56
    go_wp2_with fail
    rw [← hw, ← hq]
    clear hw hq
    refine (HTH.out _).mono ?_
    rintro e w1 ⟨rfl, hb1⟩
    have HB1 := Lib.hid (HBW.out.trans (hb1.mono HBW.out.size))
    have d2 : w1.cell? ⟨q, 2, none⟩ = some (.slice (some ⟨b, off, none⟩) n c) := ((HQW.out.below hb1 HQW.out.lt).cell 2).trans rfl
    have dd : w1.cell? ⟨b, off + k * 16 + 11, none⟩ = some (.bool dn) := (Below.cell (p := ⟨b, off + k * 16 + 11, none⟩) HB1.out hbl).trans hd
    clear hb1 hd hbl
    cases dn <;>
    · go_wp2_with fail
      go_ret
      exact ⟨rfl, HB1.out⟩
def readyR (rs : List Pg) (r : Int) : List Pg × Int := match getN rs.length r with
  | none => (rs, 0)
  | some k => match rs[k]? with
    | none => (rs, 0)
    | some z => if z.x.th.done = true then (rs, 0) else (rs.set k { z with x := { z.x with tok := z.x.tok || !z.x.blk, blk := false } }, 1)
theorem readyR_no {rs : List Pg} {r : Int} (h : livesR rs r = false) : readyR rs r = (rs, 0) := by
  unfold livesR at h
  unfold readyR
  cases hg : getN rs.length r with
  | none => rfl
  | some k =>
    rw [hg] at h
    simp only at h ⊢
    cases hz : rs[k]? with
    | none => rfl
    | some z =>
      rw [hz] at h
      simp only [Bool.not_eq_false'] at h ⊢
      rw [if_pos h]
theorem livesR_yes {rs : List Pg} {r : Int} (h : livesR rs r = true) : ∃ k z, getN rs.length r = some k ∧ rs[k]? = some z ∧ z.x.th.done = false := by
  unfold livesR at h
  cases hg : getN rs.length r with
  | none => rw [hg] at h; cases h
  | some k =>
    rw [hg] at h
    simp only at h
    cases hz : rs[k]? with
    | none => rw [hz] at h; cases h
    | some z =>
      rw [hz] at h
      simp only [Bool.not_eq_true'] at h
      exact ⟨k, z, rfl, hz, h⟩
set_option maxRecDepth 10000 in
set_option maxHeartbeats 1000000 in
theorem ready_any27 {w : World} {base n c nf fc : Nat} {F A : Option Addr} {rs : List Pg} {gs ho ow : Int} (hO : Own w base 77 16 A n c (rs.flatMap pgVals)) (hn : n = rs.length) (hn100 : n ≤ 100) (r : Int) :
    Calls Tryd.prog 82 #[.agg #[.slice F nf fc, .int .i64 gs, .slice A n c, .int .i64 ho, .int .i64 ow], .int .i64 r] w fun e w' =>
      e = .returned (.tuple #[.agg #[.slice F nf fc, .int .i64 gs, .slice A n c, .int .i64 ho, .int .i64 ow], .int .i64 (readyR rs r).2]) ∧ Own w' base 77 16 A n c ((readyR rs r).1.flatMap pgVals) ∧ Mv (ob A).toList w w' := by
  have HLV := Lib.hid (fun (w' : World) (hb : Below w.heap.size w w') => lives_row (c := c) (v0 := .slice F nf fc) (gs := .int .i64 gs) (ho := .int .i64 ho) (ow := .int .i64 ow) (own_below hO hb).rowN (by omega) r n hn)
  obtain ⟨lv, HLE⟩ : ∃ x, Hid (x = livesR rs r) := ⟨_, Lib.hid rfl⟩
  rw [← HLE.out] at HLV
  obtain ⟨RV, HRV⟩ : ∃ V, Hid (V = (#[.slice F nf fc, .int .i64 gs, .slice A n c, .int .i64 ho, .int .i64 ow] : Array Value)) := ⟨_, Lib.hid rfl⟩
  rw [← HRV.out]
  have HRI := Lib.hid (show (Tryd.prog.info? 47).map (·.size) = some RV.size by rw [HRV.out]; exact Tryd.infoRm _ _ _ _ _)
  have HR5 := Lib.hid (show 5 = RV.size by rw [HRV.out]; rfl)
  have HR1 := Lib.hid (show RV.all (·.oneCell') = true by rw [HRV.out]; simp [Value.oneCell'])
  have h2 : RV[2]? = some (.slice A n c) := by rw [HRV.out]; rfl
  have h3 : RV[3]? = some (.int .i64 ho) := by rw [HRV.out]; rfl
  obtain ⟨q, HQ⟩ : ∃ q, Hid (q = w.heap.size) := ⟨_, Lib.hid rfl⟩
  obtain ⟨W, HW⟩ : ∃ W, Hid (W = (w.alloc (.cells RV 47)).alloc (.cells #[.slice none 0 0, .int .i64 0, .slice none 0 0, .int .i64 0, .int .i64 0] 47)) := ⟨_, Lib.hid rfl⟩
  have HBW := Lib.hid (show Below w.heap.size w W by rw [HW.out]; exact below2 w _ _)
  have HQ1 := Lib.hid (show Blk W q 47 RV by rw [HW.out, HQ.out]; exact (Blk.new w _ _).alloc _)
  have HQ2 := Lib.hid (show Blk W (q + 1) 47 #[.slice none 0 0, .int .i64 0, .slice none 0 0, .int .i64 0, .int .i64 0] by rw [HW.out, HQ.out]; exact heap_alloc2_new w _ _)
  have HOL := Lib.hid (show ∀ k, ob A = some k → k < q from fun k hk => by have := (hO.lt k hk).2; have := HQ.out; omega)
  have HOW := Lib.hid (fun (V : World) (hV : Below w.heap.size w V) => own_below hO hV)
  have hw := HW.out
  have hq := HQ.out
  rw [← HRV.out] at HLV
  clear hO
  go_enter Tryd.func82, Tryd.ntmps82
  go_wp2_with (rw [← hw, ← hq]; clear hw hq; refine wpList_load_row rfl 47 _ rfl q rfl 47 RV (0, 0) _ HQ1.out Tryd.underlying47 rfl HRI.out ?_)
  refine (HLV.out W HBW.out).mono ?_
  rintro e w1 ⟨rfl, hb1⟩
  have HQ11 := Lib.hid (HQ1.out.below hb1 HQ1.out.lt)
  have HQ12 := Lib.hid (HQ2.out.below hb1 HQ2.out.lt)
  have HB1 := Lib.hid (HBW.out.trans (hb1.mono HBW.out.size))
  have HO1 := Lib.hid (HOW.out _ HB1.out)
  have m2 : w1.cell? ⟨q, 2, none⟩ = some (.slice A n c) := (HQ11.out.cell 2).trans h2
  clear hb1 h2 h3
  cases lv with
  | false =>
    have HP := Lib.hid (readyR_no HLE.out.symm)
    go_upto_region 2 with (fail)
    go_wp2_with (first | (refine wpList_load_row rfl 47 _ rfl q rfl 47 RV (0, 0) _ HQ11.out Tryd.underlying47 rfl HRI.out ?_) | (refine wpList_store_row rfl 47 _ _ rfl (q + 1) RV rfl rfl 47 _ HQ12.out HRI.out HR5.out HR1.out ?_))
    refine bodyPost_ret (results_cell2 Tryd.results82 _ _ (q + 1) 47 RV (0, 0) _ rfl (HQ12.out.setRow _) Tryd.underlying47 rfl HRI.out) rfl ?_
    exact ⟨by rw [HP.out]; rfl, by rw [HP.out]; exact own_setRow_ne HO1.out (fun k hk => Nat.lt_succ_of_lt (HOL.out k hk)) _, mv_newRow (Mv.of_below HB1.out (Nat.le_refl _)) (by rw [HQ.out]; omega) _⟩
  | true =>
    obtain ⟨k, z, hg, hzk, hdn⟩ := livesR_yes HLE.out.symm
    obtain ⟨hkn, rfl⟩ := getN_lt hg
    have hkn' : k < n := by omega
    obtain ⟨g, rfl, hgb, hgl, hc, hfz, hset⟩ := own_pg HO1.out hn hkn
    have hze : rs[k] = z := by rw [List.getElem?_eq_getElem hkn] at hzk; injection hzk
    rw [hze] at hc hset
    have x12 := hc 12 _ rfl
    have x13 := hc 13 _ rfl
    have f12 := hfz 12
    have f13 := hfz 13
    have HST12 := Lib.hid (hset 12)
    have HST13 := Lib.hid (hset 13)
    have HGL := Lib.hid hgl
    have HP0 := Lib.hid (show readyR rs (k + 1) = (rs.set k { z with x := { z.x with tok := z.x.tok || !z.x.blk, blk := false } }, 1) by
      unfold readyR
      rw [hg]
      simp only
      rw [hzk]
      simp only
      rw [if_neg (by rw [hdn]; decide)])
    clear hg hn hkn hc hfz hset hzk hdn hze
    cases hbk : z.x.blk with
    | true =>
      rw [hbk] at x12
      have HP := Lib.hid (show readyR rs (k + 1) = (rs.set k { z with x := { z.x with blk := false } }, 1) by rw [HP0.out, hbk, Bool.not_true, Bool.or_false])
      clear hbk x13 f13
      obtain ⟨ho2, hb2⟩ := HST12.out (.bool false) { z with x := { z.x with blk := false } } (by decide) rfl
      obtain ⟨w2, HW2⟩ : ∃ V, Hid (V = w1.setCell ⟨g, k * 16 + 12, none⟩ (.bool false)) := ⟨_, Lib.hid rfl⟩
      have hw2 := HW2.out
      rw [← HW2.out] at ho2 hb2
      have HQ21 := Lib.hid (show Blk w2 q 47 RV by rw [HW2.out]; exact HQ11.out.far (p := ⟨g, k * 16 + 12, none⟩) (fun e => by have := HOL.out g rfl; have e2 : q = g := e; omega) _)
      have HQ22 := Lib.hid (show Blk w2 (q + 1) 47 _ by rw [HW2.out]; exact HQ12.out.far (p := ⟨g, k * 16 + 12, none⟩) (fun e => by have := HOL.out g rfl; have e2 : q + 1 = g := e; omega) _)
      have HO2 := Lib.hid ho2
      have HB2 := Lib.hid (show Mv (ob (some ⟨g, 0, none⟩)).toList w w2 by rw [HW2.out]; exact (Mv.of_below HB1.out (Nat.le_refl _)).set _ _ (by simp [ob]))
      clear ho2 hb2
      go_upto_region 6 with (fail)
      go_wp2_with (first | (rw [← hw2]; clear hw2; refine wpList_load_row rfl 47 _ rfl q rfl 47 RV (0, 0) _ HQ21.out Tryd.underlying47 rfl HRI.out ?_) | (refine wpList_store_row rfl 47 _ _ rfl (q + 1) RV rfl rfl 47 _ HQ22.out HRI.out HR5.out HR1.out ?_))
      refine bodyPost_ret (results_cell2 Tryd.results82 _ _ (q + 1) 47 RV (0, 0) _ rfl (HQ22.out.setRow _) Tryd.underlying47 rfl HRI.out) rfl ?_
      exact ⟨by rw [HP.out]; rfl, by rw [HP.out]; exact own_setRow_ne HO2.out (fun k hk => Nat.lt_succ_of_lt (HOL.out k hk)) _, mv_newRow HB2.out (by rw [HQ.out]; omega) _⟩
    | false =>
      rw [hbk] at x12
      have HP := Lib.hid (show readyR rs (k + 1) = (rs.set k { z with x := { z.x with tok := true } }, 1) by rw [HP0.out, hbk, Bool.not_false, Bool.or_true]; simp only [hbk])
      clear hbk f12
      obtain ⟨ho2, hb2⟩ := HST13.out (.bool true) { z with x := { z.x with tok := true } } (by decide) rfl
      obtain ⟨w2, HW2⟩ : ∃ V, Hid (V = w1.setCell ⟨g, k * 16 + 13, none⟩ (.bool true)) := ⟨_, Lib.hid rfl⟩
      have hw2 := HW2.out
      rw [← HW2.out] at ho2 hb2
      have HQ21 := Lib.hid (show Blk w2 q 47 RV by rw [HW2.out]; exact HQ11.out.far (p := ⟨g, k * 16 + 13, none⟩) (fun e => by have := HOL.out g rfl; have e2 : q = g := e; omega) _)
      have HQ22 := Lib.hid (show Blk w2 (q + 1) 47 _ by rw [HW2.out]; exact HQ12.out.far (p := ⟨g, k * 16 + 13, none⟩) (fun e => by have := HOL.out g rfl; have e2 : q + 1 = g := e; omega) _)
      have HO2 := Lib.hid ho2
      have HB2 := Lib.hid (show Mv (ob (some ⟨g, 0, none⟩)).toList w w2 by rw [HW2.out]; exact (Mv.of_below HB1.out (Nat.le_refl _)).set _ _ (by simp [ob]))
      clear ho2 hb2
      go_upto_region 6 with (fail)
      go_wp2_with (first | (rw [← hw2]; clear hw2; refine wpList_load_row rfl 47 _ rfl q rfl 47 RV (0, 0) _ HQ21.out Tryd.underlying47 rfl HRI.out ?_) | (refine wpList_store_row rfl 47 _ _ rfl (q + 1) RV rfl rfl 47 _ HQ22.out HRI.out HR5.out HR1.out ?_))
      refine bodyPost_ret (results_cell2 Tryd.results82 _ _ (q + 1) 47 RV (0, 0) _ rfl (HQ22.out.setRow _) Tryd.underlying47 rfl HRI.out) rfl ?_
      exact ⟨by rw [HP.out]; rfl, by rw [HP.out]; exact own_setRow_ne HO2.out (fun k hk => Nat.lt_succ_of_lt (HOL.out k hk)) _, mv_newRow HB2.out (by rw [HQ.out]; omega) _⟩
def suspR (rs : List Pg) (ho g : Int) (kg : Nat) (r : Int) : List Pg × Int × Bool := match getN rs.length r with
  | none => (rs, -1, true)
  | some t => if r = g then (rs, -1, true) else if ho ≠ g ∧ (rs[kg]?.map (·.x.beg)).getD false = false then (rs, 0, false) else match rs[t]? with
    | none => (rs, 0, true)
    | some z => if z.x.th.done = true then (rs, 0, true) else if z.x.sus = true then (rs, -1, decide (ho = g)) else (rs.set t { z with x := { z.x with sus := true } }, 1, true)
/-- It may be. -/
def begR (rs : List Pg) (ho g : Int) (kg : Nat) : Prop := ¬ (ho ≠ g ∧ (rs[kg]?.map (·.x.beg)).getD false = false)
theorem suspR_dead {rs : List Pg} {ho g r : Int} {kg t : Nat} (h1 : getN rs.length r = some t) (h2 : r ≠ g) (h3 : begR rs ho g kg) (h4 : livesR rs r = false) : suspR rs ho g kg r = (rs, 0, true) := by
  unfold suspR
  unfold livesR at h4
  rw [h1] at h4 ⊢
  simp only at h4 ⊢
  rw [if_neg h2, if_neg h3]
  cases hz : rs[t]? with
  | none => rfl
  | some z =>
    rw [hz] at h4
    simp only [Bool.not_eq_false'] at h4 ⊢
    rw [if_pos h4]
theorem suspR_sus {rs : List Pg} {ho g r : Int} {kg t : Nat} {z : Pg} (h1 : getN rs.length r = some t) (h2 : r ≠ g) (h3 : begR rs ho g kg) (h4 : rs[t]? = some z) (h5 : z.x.th.done = false) (h6 : z.x.sus = true) : suspR rs ho g kg r = (rs, -1, decide (ho = g)) := by
  unfold suspR
  rw [h1]
  simp only
  rw [if_neg h2, if_neg h3, h4]
  simp only
  rw [if_neg (by rw [h5]; decide), if_pos h6]
theorem suspR_do {rs : List Pg} {ho g r : Int} {kg t : Nat} {z : Pg} (h1 : getN rs.length r = some t) (h2 : r ≠ g) (h3 : begR rs ho g kg) (h4 : rs[t]? = some z) (h5 : z.x.th.done = false) (h6 : z.x.sus = false) : suspR rs ho g kg r = (rs.set t { z with x := { z.x with sus := true } }, 1, true) := by
  unfold suspR
  rw [h1]
  simp only
  rw [if_neg h2, if_neg h3, h4]
  simp only
  rw [if_neg (by rw [h5]; decide), if_neg (by rw [h6]; decide)]
def SQ (q : Nat) (RV : Array Value) (w : World) : Prop := Blk w q 47 RV
set_option maxRecDepth 10000 in
set_option maxHeartbeats 4000000 in
theorem suspend_any27 {w : World} {base n c nf fc : Nat} {F A : Option Addr} {rs : List Pg} {gs ho ow : Int} (hO : Own w base 77 16 A n c (rs.flatMap pgVals)) (hn : n = rs.length) (hn100 : n ≤ 100) (kg : Nat) (hkg : kg < n) (r : Int) :
    Calls Tryd.prog 80 #[.agg #[.slice F nf fc, .int .i64 gs, .slice A n c, .int .i64 ho, .int .i64 ow], .int .i64 ((kg : Int) + 1), .int .i64 r] w fun e w' =>
      e = .returned (.tuple #[.agg #[.slice F nf fc, .int .i64 gs, .slice A n c, .int .i64 ho, .int .i64 ow], .int .i64 (suspR rs ho (kg + 1) kg r).2.1, .bool (suspR rs ho (kg + 1) kg r).2.2]) ∧ Own w' base 77 16 A n c ((suspR rs ho (kg + 1) kg r).1.flatMap pgVals) ∧ Mv (ob A).toList w w' := by
  have HLV := Lib.hid (fun (w' : World) (hb : Below w.heap.size w w') => lives_row (c := c) (v0 := .slice F nf fc) (gs := .int .i64 gs) (ho := .int .i64 ho) (ow := .int .i64 ow) (own_below hO hb).rowN (by omega) r n hn)
  have HTH := Lib.hid (fun w' => there_any (.slice F nf fc) (.int .i64 gs) (.int .i64 ho) (.int .i64 ow) A n c r w')
  obtain ⟨lv, HLE⟩ : ∃ x, Hid (x = livesR rs r) := ⟨_, Lib.hid rfl⟩
  rw [← HLE.out] at HLV
  obtain ⟨RV, HRV⟩ : ∃ V, Hid (V = (#[.slice F nf fc, .int .i64 gs, .slice A n c, .int .i64 ho, .int .i64 ow] : Array Value)) := ⟨_, Lib.hid rfl⟩
  rw [← HRV.out]
  have HRI := Lib.hid (show (Tryd.prog.info? 47).map (·.size) = some RV.size by rw [HRV.out]; exact Tryd.infoRm _ _ _ _ _)
  have HR5 := Lib.hid (show 5 = RV.size by rw [HRV.out]; rfl)
  have HR1 := Lib.hid (show RV.all (·.oneCell') = true by rw [HRV.out]; simp [Value.oneCell'])
  have h2 : RV[2]? = some (.slice A n c) := by rw [HRV.out]; rfl
  have h3 : RV[3]? = some (.int .i64 ho) := by rw [HRV.out]; rfl
  obtain ⟨q, HQ⟩ : ∃ q, Hid (q = w.heap.size) := ⟨_, Lib.hid rfl⟩
  obtain ⟨W, HW⟩ : ∃ W, Hid (W = (w.alloc (.cells RV 47)).alloc (.cells #[.slice none 0 0, .int .i64 0, .slice none 0 0, .int .i64 0, .int .i64 0] 47)) := ⟨_, Lib.hid rfl⟩
  have HBW := Lib.hid (show Below w.heap.size w W by rw [HW.out]; exact below2 w _ _)
  have HQ1 := Lib.hid (show Blk W q 47 RV by rw [HW.out, HQ.out]; exact (Blk.new w _ _).alloc _)
  have HQ2 := Lib.hid (show Blk W (q + 1) 47 #[.slice none 0 0, .int .i64 0, .slice none 0 0, .int .i64 0, .int .i64 0] by rw [HW.out, HQ.out]; exact heap_alloc2_new w _ _)
  have HOL := Lib.hid (show ∀ k, ob A = some k → k < q from fun k hk => by have := (hO.lt k hk).2; have := HQ.out; omega)
  have HOW := Lib.hid (fun (V : World) (hV : Below w.heap.size w V) => own_below hO hV)
  have hw := HW.out
  have hq := HQ.out
  rw [← HRV.out] at HLV HTH
  rw [there_getN] at HTH
  have HN := Lib.hid hn
  obtain ⟨g, rfl, hgb, hgl, hc0, -, -⟩ := own_pg hO hn (show kg < rs.length by omega)
  have hxb := hc0 15 _ rfl
  have hbe : (rs[kg]?.map (·.x.beg)).getD false = (rs[kg]'(by omega)).x.beg := by rw [List.getElem?_eq_getElem (by omega)]; rfl
  obtain ⟨bg, HBE⟩ : ∃ x, Hid (x = (rs[kg]'(by omega)).x.beg) := ⟨_, Lib.hid rfl⟩
  have hxb' : w.cell? ⟨g, kg * 16 + 15, none⟩ = some (.bool bg) := by rw [HBE.out]; exact hxb
  rw [← HBE.out] at hbe
  have HXB := Lib.hid (show ∀ V, Below w.heap.size w V → V.cell? ⟨g, kg * 16 + 15, none⟩ = some (.bool bg) from fun V h => (Below.cell (p := ⟨g, kg * 16 + 15, none⟩) h hgl).trans hxb')
  have HSL : ∀ w', SQ q RV w' → (loadVar 47 ⟨q, 0, none⟩).run Tryd.prog w' = .ok (.agg RV) w' := fun w' h => run_loadVar_cells w' q 0 _ _ _ (fun j v hv => by rw [Nat.zero_add]; exact (h.cell j).trans hv) Tryd.underlying47 rfl HRI.out
  have HSH : ∀ w', SQ q RV w' → w'.cell? ⟨q, 3, none⟩ = some (.int .i64 ho) := fun w' h => (h.cell 3).trans h3
  have HGR := Lib.hid hgb
  clear hO hc0 hxb hxb' hgl hgb hn HBE
  go_enter Tryd.func80, Tryd.ntmps80
  go_wp2_with (rw [← hw, ← hq]; clear hw hq; refine wpList_load_row rfl 47 _ rfl q rfl 47 RV (0, 0) _ HQ1.out Tryd.underlying47 rfl HRI.out ?_)
  refine (HTH.out W).mono ?_
  rintro e w1 ⟨rfl, hb1⟩
  have HQ11 := Lib.hid (HQ1.out.below hb1 HQ1.out.lt)
  have HQ12 := Lib.hid (HQ2.out.below hb1 HQ2.out.lt)
  have HB1 := Lib.hid (HBW.out.trans (hb1.mono HBW.out.size))
  have HO1 := Lib.hid (HOW.out _ HB1.out)
  have m21 : w1.cell? ⟨q, 2, none⟩ = some (.slice (some ⟨g, 0, none⟩) n c) := (HQ11.out.cell 2).trans h2
  have m31 : w1.cell? ⟨q, 3, none⟩ = some (.int .i64 ho) := (HQ11.out.cell 3).trans h3
  have xb1 := HXB.out w1 HB1.out
  clear hb1
  cases hgt : getN n r with
  | none =>
    have HP := Lib.hid (show suspR rs ho (kg + 1) kg r = (rs, -1, true) by unfold suspR; rw [← HN.out, hgt])
    simp only [Option.isSome_none]
    clear hgt hbe
    go_upto_region 2 with (fail)
    go_wp2_with (first | (refine wpList_load_row rfl 47 _ rfl q rfl 47 RV (0, 0) _ HQ11.out Tryd.underlying47 rfl HRI.out ?_) | (refine wpList_store_row rfl 47 _ _ rfl (q + 1) RV rfl rfl 47 _ HQ12.out HRI.out HR5.out HR1.out ?_))
    refine bodyPost_ret (results_cell3 Tryd.results80 _ _ (q + 1) 47 RV (0, 0) _ rfl (HQ12.out.setRow _) Tryd.underlying47 rfl HRI.out) rfl ?_
    exact ⟨by rw [HP.out]; rfl, by rw [HP.out]; exact own_setRow_ne HO1.out (fun k hk => Nat.lt_succ_of_lt (HOL.out k hk)) _, mv_newRow (Mv.of_below HB1.out (Nat.le_refl _)) (by rw [HQ.out]; omega) _⟩
  | some t =>
    obtain ⟨htn, rfl⟩ := getN_lt hgt
    simp only [Option.isSome_some]
    by_cases htg : (t : Int) + 1 = (kg : Int) + 1
    · have e1 : ((t : Int) + 1 == (kg : Int) + 1) = true := by simpa using htg
      have e2 : ((t : Int) == (kg : Int)) = true := by simpa using htg
      have HP := Lib.hid (show suspR rs ho (kg + 1) kg (t + 1) = (rs, -1, true) by unfold suspR; rw [← HN.out, hgt]; simp only; rw [if_pos htg])
      obtain rfl : t = kg := by omega
      clear hgt hbe htg
      go_upto_region 2 with (fail)
      go_wp2_with (first | (refine wpList_load_row rfl 47 _ rfl q rfl 47 RV (0, 0) _ HQ11.out Tryd.underlying47 rfl HRI.out ?_) | (refine wpList_store_row rfl 47 _ _ rfl (q + 1) RV rfl rfl 47 _ HQ12.out HRI.out HR5.out HR1.out ?_))
      refine bodyPost_ret (results_cell3 Tryd.results80 _ _ (q + 1) 47 RV (0, 0) _ rfl (HQ12.out.setRow _) Tryd.underlying47 rfl HRI.out) rfl ?_
      exact ⟨by rw [HP.out]; rfl, by rw [HP.out]; exact own_setRow_ne HO1.out (fun k hk => Nat.lt_succ_of_lt (HOL.out k hk)) _, mv_newRow (Mv.of_below HB1.out (Nat.le_refl _)) (by rw [HQ.out]; omega) _⟩
    · have HGT := Lib.hid (show getN rs.length ((t : Int) + 1) = some t by rw [← HN.out]; exact hgt)
      have HTG := Lib.hid htg
      have e1 : ((t : Int) + 1 == (kg : Int) + 1) = false := by simpa using htg
      have e2 : ((t : Int) == (kg : Int)) = false := by
        have : (t : Int) ≠ kg := fun e => htg (by rw [e])
        simpa using this
      have HZF := Lib.hid htn
      clear hgt htg
      by_cases hho : ho = (kg : Int) + 1
      · have HBG := Lib.hid (show begR rs ho (kg + 1) kg from fun h => h.1 hho)
        have o1 : (ho == (kg : Int) + 1) = true := by simpa using hho
        have o2 : (ho != (kg : Int) + 1) = false := by simpa using hho
        have HDC := Lib.hid (decide_eq_true hho)
        clear hho hbe
        go_upto_region 5 with (fail)
        go_wp2_with (refine wpList_load_row rfl 47 _ rfl q rfl 47 RV (0, 0) _ HQ11.out Tryd.underlying47 rfl HRI.out ?_)
        refine (HLV.out w1 HB1.out).mono ?_
        rintro e w2 ⟨rfl, hb1⟩
        have HQ21 := Lib.hid (HQ11.out.below hb1 HQ11.out.lt)
        have HQ22 := Lib.hid (HQ12.out.below hb1 HQ12.out.lt)
        have HB2 := Lib.hid (HB1.out.trans (hb1.mono HB1.out.size))
        have HO2 := Lib.hid (HOW.out _ HB2.out)
        have m2 : w2.cell? ⟨q, 2, none⟩ = some (.slice (some ⟨g, 0, none⟩) n c) := (HQ21.out.cell 2).trans h2
        have m3 : w2.cell? ⟨q, 3, none⟩ = some (.int .i64 ho) := (HQ21.out.cell 3).trans h3
        clear hb1 m21 m31
        cases lv with
        | false =>
          have HP := Lib.hid (show suspR rs ho (kg + 1) kg (t + 1) = (rs, 0, true) from suspR_dead HGT.out HTG.out HBG.out HLE.out.symm)
          clear HZF
          go_upto_region 6 with (fail)
          go_wp2_with (first | (refine wpList_load_row rfl 47 _ rfl q rfl 47 RV (0, 0) _ HQ21.out Tryd.underlying47 rfl HRI.out ?_) | (refine wpList_store_row rfl 47 _ _ rfl (q + 1) RV rfl rfl 47 _ HQ22.out HRI.out HR5.out HR1.out ?_))
          refine bodyPost_ret (results_cell3 Tryd.results80 _ _ (q + 1) 47 RV (0, 0) _ rfl (HQ22.out.setRow _) Tryd.underlying47 rfl HRI.out) rfl ?_
          exact ⟨by rw [HP.out]; rfl, by rw [HP.out]; exact own_setRow_ne HO2.out (fun k hk => Nat.lt_succ_of_lt (HOL.out k hk)) _, mv_newRow (Mv.of_below HB2.out (Nat.le_refl _)) (by rw [HQ.out]; omega) _⟩
        | true =>
          obtain ⟨t', z, hg, hzk, hdn⟩ := livesR_yes HLE.out.symm
          obtain rfl : t' = t := by
            have := (getN_lt hg).2
            omega
          obtain ⟨hkn, -⟩ := getN_lt hg
          have hkn' : t' < n := by omega
          obtain ⟨g2, hge, hgb2, hgl2, hc2, hfz2, hset2⟩ := own_pg HO2.out HN.out hkn
          obtain rfl : g = g2 := by injection hge with hge; injection hge with hge
          have hze : rs[t'] = z := by rw [List.getElem?_eq_getElem hkn] at hzk; injection hzk
          rw [hze] at hc2 hset2
          have x14 := hc2 14 _ rfl
          have f14 := hfz2 14
          have HST14 := Lib.hid (hset2 14)
          have HZZ := Lib.hid (And.intro hzk hdn)
          clear hg hkn hc2 hfz2 hset2 hzk hdn hze hge
          cases hsu : z.x.sus with
          | true =>
            have HP := Lib.hid (show suspR rs ho (kg + 1) kg (t' + 1) = (rs, -1, true) by rw [← HDC.out]; exact suspR_sus HGT.out HTG.out HBG.out HZZ.out.1 HZZ.out.2 hsu)
            rw [hsu] at x14
            clear hsu f14
            go_upto_region 8 with (fail)
            refine region_sch (SQ q RV) [([0, 1, 2, 3, 4], 5)] [6, 7] (by kernel_rfl) (by kernel_rfl) (by kernel_rfl) (fun _ _ d _ _ h => by cases d <;> exact h) HQ21.out ?_
            (try simp only [Act.put, List.setIfInBounds_toArray, List.set_cons_zero, List.set_cons_succ]); refine sch_seg ?_; simp only [pickOps, List.getElem?_toArray, List.getElem?_cons_zero, List.getElem?_cons_succ]; (repeat (first | (refine quiet_load_at (by rfl) 47 _ rfl ⟨q, 0, none⟩ rfl RV HSL ?_; simp only [Act.put, List.setIfInBounds_toArray, List.set_cons_zero, List.set_cons_succ]) | go_big_quiet_skip | (go_big_quiet_want; first | (go_big_quiet_op; first | go_big_quiet_on | ((first | with_reducible refine ⟨_, fun _ _ => rfl, ?_⟩); go_big_quiet_on)) | (simp (contextual := true) [go_sem, HSH]; with_reducible refine ⟨_, fun _ _ => rfl, ?_⟩; go_big_quiet_on)))); refine wpQuiet_nil ?_
            go_wp2_with (refine wpList_store_row rfl 47 _ _ rfl (q + 1) RV rfl rfl 47 _ HQ22.out.drew HRI.out HR5.out HR1.out ?_)
            refine ⟨SQ q RV, HQ21.out.drew.farRow (by omega) _, fun _ h => h, ?_⟩
            (try simp only [Act.put]); refine sch_end ?_; simp only [pickOps, List.getElem?_toArray, List.getElem?_cons_zero, List.getElem?_cons_succ]; (repeat (first | go_big_quiet_skip | (go_big_quiet_want; first | (go_big_quiet_op; first | go_big_quiet_on | ((first | with_reducible refine ⟨_, fun _ _ => rfl, ?_⟩); go_big_quiet_on)) | (simp (contextual := true) [go_sem, HSH]; with_reducible refine ⟨_, fun _ _ => rfl, ?_⟩; go_big_quiet_on)))); refine wpQuiet_nil ?_
            go_wp2_with fail
            refine bodyPost_ret (results_cell3 Tryd.results80 _ _ (q + 1) 47 RV (0, 0) _ rfl (HQ22.out.drew.setRow _) Tryd.underlying47 rfl HRI.out) rfl ?_
            exact ⟨by rw [HP.out]; rfl, by rw [HP.out]; exact own_setRow_ne (World.ownsRow.drew HO2.out) (fun k hk => Nat.lt_succ_of_lt (HOL.out k hk)) _, mv_newRow (Mv.of_below (HB2.out.drew) (Nat.le_refl _)) (by rw [HQ.out]; omega) _⟩
          | false =>
            have HP := Lib.hid (show suspR rs ho (kg + 1) kg (t' + 1) = (rs.set t' { z with x := { z.x with sus := true } }, 1, true) from suspR_do HGT.out HTG.out HBG.out HZZ.out.1 HZZ.out.2 hsu)
            rw [hsu] at x14
            clear hsu
            obtain ⟨ho2, hb2⟩ := HST14.out (.bool true) { z with x := { z.x with sus := true } } (by decide) rfl
            obtain ⟨w3, HW3⟩ : ∃ V, Hid (V = w2.setCell ⟨g, t' * 16 + 14, none⟩ (.bool true)) := ⟨_, Lib.hid rfl⟩
            have hw3 := HW3.out
            rw [← HW3.out] at ho2 hb2
            have HQ31 := Lib.hid (show Blk w3 q 47 RV by rw [HW3.out]; exact HQ21.out.far (p := ⟨g, t' * 16 + 14, none⟩) (fun e => by have := HOL.out g rfl; have e2 : q = g := e; omega) _)
            have HQ32 := Lib.hid (show Blk w3 (q + 1) 47 _ by rw [HW3.out]; exact HQ22.out.far (p := ⟨g, t' * 16 + 14, none⟩) (fun e => by have := HOL.out g rfl; have e2 : q + 1 = g := e; omega) _)
            have HO3 := Lib.hid ho2
            have HB3 := Lib.hid (show Mv (ob (some ⟨g, 0, none⟩)).toList w w3 by rw [HW3.out]; exact (Mv.of_below HB2.out (Nat.le_refl _)).set _ _ (by simp [ob]))
            clear ho2 hb2
            go_upto_region 10 with (fail)
            go_wp2_with (first | (rw [← hw3]; clear hw3; refine wpList_load_row rfl 47 _ rfl q rfl 47 RV (0, 0) _ HQ31.out Tryd.underlying47 rfl HRI.out ?_) | (refine wpList_store_row rfl 47 _ _ rfl (q + 1) RV rfl rfl 47 _ HQ32.out HRI.out HR5.out HR1.out ?_))
            refine bodyPost_ret (results_cell3 Tryd.results80 _ _ (q + 1) 47 RV (0, 0) _ rfl (HQ32.out.setRow _) Tryd.underlying47 rfl HRI.out) rfl ?_
            exact ⟨by rw [HP.out]; rfl, by rw [HP.out]; exact own_setRow_ne HO3.out (fun k hk => Nat.lt_succ_of_lt (HOL.out k hk)) _, mv_newRow HB3.out (by rw [HQ.out]; omega) _⟩
      · have o1 : (ho == (kg : Int) + 1) = false := by simpa using hho
        have o2 : (ho != (kg : Int) + 1) = true := by simpa using hho
        have HDC := Lib.hid (decide_eq_false hho)
        cases bg with
        | true =>
          have HBG := Lib.hid (show begR rs ho (kg + 1) kg from fun h => by rw [hbe] at h; cases h.2)
          clear hho hbe
          go_upto_region 5 with (fail)
          go_wp2_with (refine wpList_load_row rfl 47 _ rfl q rfl 47 RV (0, 0) _ HQ11.out Tryd.underlying47 rfl HRI.out ?_)
          refine (HLV.out w1 HB1.out).mono ?_
          rintro e w2 ⟨rfl, hb1⟩
          have HQ21 := Lib.hid (HQ11.out.below hb1 HQ11.out.lt)
          have HQ22 := Lib.hid (HQ12.out.below hb1 HQ12.out.lt)
          have HB2 := Lib.hid (HB1.out.trans (hb1.mono HB1.out.size))
          have HO2 := Lib.hid (HOW.out _ HB2.out)
          have m2 : w2.cell? ⟨q, 2, none⟩ = some (.slice (some ⟨g, 0, none⟩) n c) := (HQ21.out.cell 2).trans h2
          have m3 : w2.cell? ⟨q, 3, none⟩ = some (.int .i64 ho) := (HQ21.out.cell 3).trans h3
          clear hb1 m21 m31
          cases lv with
          | false =>
            have HP := Lib.hid (show suspR rs ho (kg + 1) kg (t + 1) = (rs, 0, true) from suspR_dead HGT.out HTG.out HBG.out HLE.out.symm)
            clear HZF
            go_upto_region 6 with (fail)
            go_wp2_with (first | (refine wpList_load_row rfl 47 _ rfl q rfl 47 RV (0, 0) _ HQ21.out Tryd.underlying47 rfl HRI.out ?_) | (refine wpList_store_row rfl 47 _ _ rfl (q + 1) RV rfl rfl 47 _ HQ22.out HRI.out HR5.out HR1.out ?_))
            refine bodyPost_ret (results_cell3 Tryd.results80 _ _ (q + 1) 47 RV (0, 0) _ rfl (HQ22.out.setRow _) Tryd.underlying47 rfl HRI.out) rfl ?_
            exact ⟨by rw [HP.out]; rfl, by rw [HP.out]; exact own_setRow_ne HO2.out (fun k hk => Nat.lt_succ_of_lt (HOL.out k hk)) _, mv_newRow (Mv.of_below HB2.out (Nat.le_refl _)) (by rw [HQ.out]; omega) _⟩
          | true =>
            obtain ⟨t', z, hg, hzk, hdn⟩ := livesR_yes HLE.out.symm
            obtain rfl : t' = t := by
              have := (getN_lt hg).2
              omega
            obtain ⟨hkn, -⟩ := getN_lt hg
            have hkn' : t' < n := by omega
            obtain ⟨g2, hge, hgb2, hgl2, hc2, hfz2, hset2⟩ := own_pg HO2.out HN.out hkn
            obtain rfl : g = g2 := by injection hge with hge; injection hge with hge
            have hze : rs[t'] = z := by rw [List.getElem?_eq_getElem hkn] at hzk; injection hzk
            rw [hze] at hc2 hset2
            have x14 := hc2 14 _ rfl
            have f14 := hfz2 14
            have HST14 := Lib.hid (hset2 14)
            have HZZ := Lib.hid (And.intro hzk hdn)
            clear hg hkn hc2 hfz2 hset2 hzk hdn hze hge
            cases hsu : z.x.sus with
            | true =>
              have HP := Lib.hid (show suspR rs ho (kg + 1) kg (t' + 1) = (rs, -1, false) by rw [← HDC.out]; exact suspR_sus HGT.out HTG.out HBG.out HZZ.out.1 HZZ.out.2 hsu)
              rw [hsu] at x14
              clear hsu f14
              go_upto_region 8 with (fail)
              refine region_sch (SQ q RV) [([0, 1, 2, 3, 4], 5)] [6, 7] (by kernel_rfl) (by kernel_rfl) (by kernel_rfl) (fun _ _ d _ _ h => by cases d <;> exact h) HQ21.out ?_
              (try simp only [Act.put, List.setIfInBounds_toArray, List.set_cons_zero, List.set_cons_succ]); refine sch_seg ?_; simp only [pickOps, List.getElem?_toArray, List.getElem?_cons_zero, List.getElem?_cons_succ]; (repeat (first | (refine quiet_load_at (by rfl) 47 _ rfl ⟨q, 0, none⟩ rfl RV HSL ?_; simp only [Act.put, List.setIfInBounds_toArray, List.set_cons_zero, List.set_cons_succ]) | go_big_quiet_skip | (go_big_quiet_want; first | (go_big_quiet_op; first | go_big_quiet_on | ((first | with_reducible refine ⟨_, fun _ _ => rfl, ?_⟩); go_big_quiet_on)) | (simp (contextual := true) [go_sem, HSH]; with_reducible refine ⟨_, fun _ _ => rfl, ?_⟩; go_big_quiet_on)))); refine wpQuiet_nil ?_
              go_wp2_with (refine wpList_store_row rfl 47 _ _ rfl (q + 1) RV rfl rfl 47 _ HQ22.out.drew HRI.out HR5.out HR1.out ?_)
              refine ⟨SQ q RV, HQ21.out.drew.farRow (by omega) _, fun _ h => h, ?_⟩
              (try simp only [Act.put]); refine sch_end ?_; simp only [pickOps, List.getElem?_toArray, List.getElem?_cons_zero, List.getElem?_cons_succ]; (repeat (first | go_big_quiet_skip | (go_big_quiet_want; first | (go_big_quiet_op; first | go_big_quiet_on | ((first | with_reducible refine ⟨_, fun _ _ => rfl, ?_⟩); go_big_quiet_on)) | (simp (contextual := true) [go_sem, HSH]; with_reducible refine ⟨_, fun _ _ => rfl, ?_⟩; go_big_quiet_on)))); refine wpQuiet_nil ?_
              go_wp2_with fail
              refine bodyPost_ret (results_cell3 Tryd.results80 _ _ (q + 1) 47 RV (0, 0) _ rfl (HQ22.out.drew.setRow _) Tryd.underlying47 rfl HRI.out) rfl ?_
              exact ⟨by rw [HP.out]; rfl, by rw [HP.out]; exact own_setRow_ne (World.ownsRow.drew HO2.out) (fun k hk => Nat.lt_succ_of_lt (HOL.out k hk)) _, mv_newRow (Mv.of_below (HB2.out.drew) (Nat.le_refl _)) (by rw [HQ.out]; omega) _⟩
            | false =>
              have HP := Lib.hid (show suspR rs ho (kg + 1) kg (t' + 1) = (rs.set t' { z with x := { z.x with sus := true } }, 1, true) from suspR_do HGT.out HTG.out HBG.out HZZ.out.1 HZZ.out.2 hsu)
              rw [hsu] at x14
              clear hsu
              obtain ⟨ho2, hb2⟩ := HST14.out (.bool true) { z with x := { z.x with sus := true } } (by decide) rfl
              obtain ⟨w3, HW3⟩ : ∃ V, Hid (V = w2.setCell ⟨g, t' * 16 + 14, none⟩ (.bool true)) := ⟨_, Lib.hid rfl⟩
              have hw3 := HW3.out
              rw [← HW3.out] at ho2 hb2
              have HQ31 := Lib.hid (show Blk w3 q 47 RV by rw [HW3.out]; exact HQ21.out.far (p := ⟨g, t' * 16 + 14, none⟩) (fun e => by have := HOL.out g rfl; have e2 : q = g := e; omega) _)
              have HQ32 := Lib.hid (show Blk w3 (q + 1) 47 _ by rw [HW3.out]; exact HQ22.out.far (p := ⟨g, t' * 16 + 14, none⟩) (fun e => by have := HOL.out g rfl; have e2 : q + 1 = g := e; omega) _)
              have HO3 := Lib.hid ho2
              have HB3 := Lib.hid (show Mv (ob (some ⟨g, 0, none⟩)).toList w w3 by rw [HW3.out]; exact (Mv.of_below HB2.out (Nat.le_refl _)).set _ _ (by simp [ob]))
              clear ho2 hb2
              go_upto_region 10 with (fail)
              go_wp2_with (first | (rw [← hw3]; clear hw3; refine wpList_load_row rfl 47 _ rfl q rfl 47 RV (0, 0) _ HQ31.out Tryd.underlying47 rfl HRI.out ?_) | (refine wpList_store_row rfl 47 _ _ rfl (q + 1) RV rfl rfl 47 _ HQ32.out HRI.out HR5.out HR1.out ?_))
              refine bodyPost_ret (results_cell3 Tryd.results80 _ _ (q + 1) 47 RV (0, 0) _ rfl (HQ32.out.setRow _) Tryd.underlying47 rfl HRI.out) rfl ?_
              exact ⟨by rw [HP.out]; rfl, by rw [HP.out]; exact own_setRow_ne HO3.out (fun k hk => Nat.lt_succ_of_lt (HOL.out k hk)) _, mv_newRow HB3.out (by rw [HQ.out]; omega) _⟩
        | false =>
          have HP := Lib.hid (show suspR rs ho (kg + 1) kg (t + 1) = (rs, 0, false) by unfold suspR; rw [HGT.out]; simp only; rw [if_neg HTG.out, if_pos ⟨hho, hbe⟩])
          clear hho hbe
          go_upto_region 4 with (fail)
          go_wp2_with (first | (refine wpList_load_row rfl 47 _ rfl q rfl 47 RV (0, 0) _ HQ11.out Tryd.underlying47 rfl HRI.out ?_) | (refine wpList_store_row rfl 47 _ _ rfl (q + 1) RV rfl rfl 47 _ HQ12.out HRI.out HR5.out HR1.out ?_))
          refine bodyPost_ret (results_cell3 Tryd.results80 _ _ (q + 1) 47 RV (0, 0) _ rfl (HQ12.out.setRow _) Tryd.underlying47 rfl HRI.out) rfl ?_
          exact ⟨by rw [HP.out]; rfl, by rw [HP.out]; exact own_setRow_ne HO1.out (fun k hk => Nat.lt_succ_of_lt (HOL.out k hk)) _, mv_newRow (Mv.of_below HB1.out (Nat.le_refl _)) (by rw [HQ.out]; omega) _⟩
end Go.Proofs.YtkfpnppppmccdaaDoor

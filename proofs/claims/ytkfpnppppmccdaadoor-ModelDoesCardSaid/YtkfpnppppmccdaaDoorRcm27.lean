/-
  Chapter 27, the reference's model: commit (printed by rcm27.py).
-/
import Derived.Test.YtkfpnppppmccdaaDoorRbg27
namespace Go.Proofs.YtkfpnppppmccdaaDoor
open Go.RowKit
/-- What lies there in the midst of commit: the boxes q (the model), q + 1 (the instruction), q + 2 (the result), q9 (the copy), and the copy's row. -/
structure ComS (w V : World) (q q9 : Nat) (mv ins z5 mv9 : Array Value) (A1 : Option Addr) (n c1 : Nat) (rs1 : List Pg) : Prop where
  h1 : Blk V q 47 mv
  h2 : Blk V (q + 1) 64 ins
  h3 : Blk V (q + 2) 47 z5
  h9 : Blk V q9 47 mv9
  own : Own V w.heap.size 77 16 A1 n c1 (rs1.flatMap pgVals)
  ne : ∀ b, ob A1 = some b → b ≠ q ∧ b ≠ q + 1 ∧ b ≠ q + 2 ∧ b ≠ q9
  n9 : q9 ≠ q ∧ q9 ≠ q + 1 ∧ q9 ≠ q + 2
  bel : Below w.heap.size w V
  lo : w.heap.size ≤ q ∧ w.heap.size ≤ q9
section
variable {w V V2 : World} {q q9 : Nat} {mv ins z5 mv9 : Array Value} {A1 A2 : Option Addr} {n c1 n2 c2 : Nat} {rs1 rs2 : List Pg}
theorem ComS.step (h : ComS w V q q9 mv ins z5 mv9 A1 n c1 rs1) (hb : Below V.heap.size V V2) : ComS w V2 q q9 mv ins z5 mv9 A1 n c1 rs1 :=
  ⟨h.h1.below hb h.h1.lt, h.h2.below hb h.h2.lt, h.h3.below hb h.h3.lt, h.h9.below hb h.h9.lt, own_below h.own hb, h.ne, h.n9, h.bel.trans (hb.mono h.bel.size), h.lo⟩
/-- The row was written, or is another one. -/
theorem ComS.row (h : ComS w V q q9 mv ins z5 mv9 A1 n c1 rs1) (hm : Mv (ob A1).toList V V2) (ho : Own V2 w.heap.size 77 16 A2 n2 c2 (rs2.flatMap pgVals)) (ha : ob A2 = ob A1 ∨ ∀ b, ob A2 = some b → V.heap.size ≤ b) : ComS w V2 q q9 mv ins z5 mv9 A2 n2 c2 rs2 := by
  have hn : ∀ x, (x = q ∨ x = q + 1 ∨ x = q + 2 ∨ x = q9) → x ∉ (ob A1).toList := by
    intro x hx hc
    have := h.ne x (Option.mem_toList.1 hc)
    omega
  have l1 := h.h1.lt
  have l2 := h.h2.lt
  have l3 := h.h3.lt
  have l9 := h.h9.lt
  refine ⟨hm.blk h.h1 (hn _ (.inl rfl)), hm.blk h.h2 (hn _ (.inr (.inl rfl))), hm.blk h.h3 (hn _ (.inr (.inr (.inl rfl)))), hm.blk h.h9 (hn _ (.inr (.inr (.inr rfl)))), ho, ?_, h.n9, h.bel.trans ?_, h.lo⟩
  · intro b hb
    rcases ha with e | e
    · exact h.ne b (e ▸ hb)
    · have := e b hb
      omega
  · refine (hm.low h.bel.size (fun b hb => (h.own.lt b (Option.mem_toList.1 hb)).1))
/-- A field of the copy was stored. -/
theorem ComS.field (h : ComS w V q q9 mv ins z5 mv9 A1 n c1 rs1) (j : Nat) (v : Value) : ComS w (V.setCell ⟨q9, j, none⟩ v) q q9 mv ins z5 (mv9.setIfInBounds j v) A1 n c1 rs1 :=
  ⟨h.h1.far (p := ⟨q9, j, none⟩) (Ne.symm h.n9.1) _, h.h2.far (p := ⟨q9, j, none⟩) (Ne.symm h.n9.2.1) _, h.h3.far (p := ⟨q9, j, none⟩) (Ne.symm h.n9.2.2) _, h.h9.set_ j v, h.own.setCell ⟨q9, j, none⟩ _ (by
    cases hA : ob A1 with
    | none => exact .inl rfl
    | some b =>
      refine .inr fun e => ?_
      injection e with e
      exact (h.ne b hA).2.2.2 e), h.ne, h.n9, h.bel.setCell (p := ⟨q9, j, none⟩) h.lo.2 _, h.lo⟩
/-- All of the copy's box was stored. -/
theorem ComS.box (h : ComS w V q q9 mv ins z5 mv9 A1 n c1 rs1) (cs : Array Value) : ComS w (V.setRow q9 cs) q q9 mv ins z5 cs A1 n c1 rs1 :=
  ⟨h.h1.farRow (Ne.symm h.n9.1) _, h.h2.farRow (Ne.symm h.n9.2.1) _, h.h3.farRow (Ne.symm h.n9.2.2) _, h.h9.setRow _, Own.kept h.own (grown_setRow _ _ _) (by
    cases hA : ob A1 with
    | none => exact .inl rfl
    | some b =>
      refine .inr fun e => ?_
      injection e with e
      exact (h.ne b hA).2.2.2 e), h.ne, h.n9, below_setRow h.bel h.lo.2 h.bel.size _, h.lo⟩
/-- The same ahead of the copy's box. -/
structure Raw (w V : World) (q : Nat) (mv ins z5 : Array Value) (A1 : Option Addr) (n c1 : Nat) (rs1 : List Pg) : Prop where
  h1 : Blk V q 47 mv
  h2 : Blk V (q + 1) 64 ins
  h3 : Blk V (q + 2) 47 z5
  own : Own V w.heap.size 77 16 A1 n c1 (rs1.flatMap pgVals)
  ne : ∀ b, ob A1 = some b → q + 2 < b
  bel : Below w.heap.size w V
  lo : w.heap.size ≤ q
theorem Raw.row (h : Raw w V q mv ins z5 A1 n c1 rs1) (hm : Mv (ob A1).toList V V2) (ho : Own V2 w.heap.size 77 16 A1 n c1 (rs2.flatMap pgVals)) : Raw w V2 q mv ins z5 A1 n c1 rs2 := by
  have hn : ∀ x, x ≤ q + 2 → x ∉ (ob A1).toList := by
    intro x hx hc
    have := h.ne x (Option.mem_toList.1 hc)
    omega
  exact ⟨hm.blk h.h1 (hn _ (by omega)), hm.blk h.h2 (hn _ (by omega)), hm.blk h.h3 (hn _ (by omega)), ho, h.ne, h.bel.trans (hm.low h.bel.size (fun b hb => (h.own.lt b (Option.mem_toList.1 hb)).1)), h.lo⟩
theorem Raw.late (h : Raw w V q mv ins z5 A1 n c1 rs1) (cs : Array Value) : ComS w (V.alloc (.cells cs 47)) q V.heap.size mv ins z5 cs A1 n c1 rs1 := by
  have l1 := h.h1.lt
  have l2 := h.h2.lt
  have l3 := h.h3.lt
  refine ⟨h.h1.alloc _, h.h2.alloc _, h.h3.alloc _, Blk.new _ _ _, h.own.alloc _, fun b hb' => ?_, by omega, h.bel.alloc h.bel.size _, h.lo, h.bel.size⟩
  have := h.ne b hb'
  have := (h.own.lt b hb').2
  omega
theorem ComS.fresh (h : ComS w V q q9 mv ins z5 mv9 none 0 0 []) (hb : Below V.heap.size V V2) (ho : Own V2 V.heap.size 77 16 A2 n2 c2 (rs2.flatMap pgVals)) : ComS w V2 q q9 mv ins z5 mv9 A2 n2 c2 rs2 := by
  have h' := h.step hb
  have l1 := h.h1.lt
  have l2 := h.h2.lt
  have l3 := h.h3.lt
  have l9 := h.h9.lt
  exact ⟨h'.h1, h'.h2, h'.h3, h'.h9, own_base ho h.bel.size, fun b hb' => by have := (ho.lt b hb').1; omega, h.n9, h'.bel, h.lo⟩
theorem own_nil27 (V : World) (base : Nat) : Own V base 77 16 none 0 0 (([] : List Pg).flatMap pgVals) := World.ownsRow_nil V base _ _
end
theorem flat_get16 : ∀ (rs : List Pg) (k r : Nat), r < 16 → (rs.flatMap pgVals)[k * 16 + r]? = (rs[k]?).bind fun z => (pgVals z)[r]?
  | [], k, r, _ => by simp
  | a :: l, 0, r, hr => by
    rw [List.flatMap_cons, Nat.zero_mul, Nat.zero_add, List.getElem?_append_left (by rw [pgVals_len]; exact hr)]
    rfl
  | a :: l, k + 1, r, hr => by
    rw [List.flatMap_cons, List.getElem?_append_right (by rw [pgVals_len]; omega), pgVals_len, show (k + 1) * 16 + r - 16 = k * 16 + r by omega, flat_get16 l k r hr]
    rfl
theorem splice_size {X cs : Array Value} {off : Nat} (h : off + cs.size ≤ X.size) : (splice X off cs).size = X.size := by
  unfold splice
  simp
  omega
theorem splice_get {X cs : Array Value} {off : Nat} (h : off + cs.size ≤ X.size) (j : Nat) : (splice X off cs).toList[j]? = if j < off then X.toList[j]? else if j < off + cs.size then cs.toList[j - off]? else X.toList[j]? := by
  have hx : X.toList.length = X.size := Array.length_toList
  have hc : cs.toList.length = cs.size := Array.length_toList
  have hl : (X.toList.take off).length = off := by rw [List.length_take, hx]; omega
  unfold splice
  show (X.toList.take off ++ cs.toList ++ X.toList.drop (off + cs.size))[j]? = _
  by_cases h1 : j < off
  · rw [if_pos h1, List.append_assoc, List.getElem?_append_left (by omega), List.getElem?_take, if_pos h1]
  · rw [if_neg h1]
    by_cases h2 : j < off + cs.size
    · rw [if_pos h2, List.getElem?_append_left (by rw [List.length_append]; omega), List.getElem?_append_right (by omega), hl]
    · rw [if_neg h2, List.getElem?_append_right (by rw [List.length_append]; omega), List.length_append, hl, hc, List.getElem?_drop]
      congr 1
      omega
/-- A thread stored into a row of one's own. -/
theorem own_thread {v : World} {base n c : Nat} {A : Option Addr} {rs : List Pg} (h : Own v base 77 16 A n c (rs.flatMap pgVals)) (hn : n = rs.length) {kg : Nat} {z2 : Pg} (hz : rs[kg]? = some z2) (u : Th) (B' : Option Addr) (d' : Nat) (hu : u.regs.length = 8) :
    ∃ g2 cur, A = some ⟨g2, 0, none⟩ ∧ Blk v g2 77 cur ∧ kg * 16 + (thArr u B' d').size ≤ cur.size ∧ Own (v.setRow g2 (splice cur (kg * 16) (thArr u B' d'))) base 77 16 A n c ((rs.set kg ⟨{ z2.x with th := u }, B', d'⟩).flatMap pgVals) := by
  have hk := (List.getElem?_eq_some_iff.1 hz).1
  have h12 := thArr_size B' d' hu
  have hlen := flat_length (f := pgVals) (size := 16) pgVals_len
  rcases h.2 with ⟨_, h0⟩ | ⟨g2, cap, cur, hv, hb, hh, hnc, hcm, hcs, ht⟩
  · omega
  injection hv with hA hn' hc'
  subst hA hc'
  have hsz : kg * 16 + (thArr u B' d').size ≤ cur.size := by rw [h12, hcs]; omega
  refine ⟨g2, cur, rfl, hh, hsz, ?_, .inr ⟨g2, c, splice cur (kg * 16) (thArr u B' d'), rfl, hb, Blk.setRow hh _, hnc, hcm, by rw [splice_size hsz, hcs], ?_⟩⟩
  · rw [hlen, List.length_set, hn]
  · apply List.ext_getElem?
    intro j
    have hj : j = j / 16 * 16 + j % 16 := by omega
    have hr : j % 16 < 16 := Nat.mod_lt _ (by omega)
    have hold : (rs.flatMap pgVals)[j]? = if j < n * 16 then cur.toList[j]? else none := by rw [← ht, List.getElem?_take]
    rw [List.getElem?_take]
    by_cases hjn : j < n * 16
    · rw [if_pos hjn] at hold ⊢
      rw [splice_get hsz, h12]
      have hnew : ((rs.set kg ⟨{ z2.x with th := u }, B', d'⟩).flatMap pgVals)[j]? = ((rs.set kg ⟨{ z2.x with th := u }, B', d'⟩)[j / 16]?).bind fun z => (pgVals z)[j % 16]? := by
        conv => lhs; rw [hj]
        exact flat_get16 _ _ _ hr
      have hold2 : (rs.flatMap pgVals)[j]? = (rs[j / 16]?).bind fun z => (pgVals z)[j % 16]? := by
        conv => lhs; rw [hj]
        exact flat_get16 _ _ _ hr
      rw [hnew, List.getElem?_set]
      by_cases hkj : kg = j / 16
      · rw [if_pos hkj, if_pos hk]
        show _ = (pgVals ⟨{ z2.x with th := u }, B', d'⟩)[j % 16]?
        rw [if_neg (by omega)]
        by_cases h3 : j < kg * 16 + 12
        · rw [if_pos h3, Array.getElem?_toList, show j - kg * 16 = j % 16 by omega]
          exact (pg_th ⟨{ z2.x with th := u }, B', d'⟩ hu (j % 16) (by omega)).symm
        · rw [if_neg h3, ← hold, hold2, ← hkj, hz]
          show (pgVals z2)[j % 16]? = _
          have : j % 16 = 12 ∨ j % 16 = 13 ∨ j % 16 = 14 ∨ j % 16 = 15 := by omega
          rcases this with e | e | e | e <;> rw [e] <;> rfl
      · rw [if_neg hkj, ← hold2, hold]
        split
        · rfl
        · rw [if_neg (by omega)]
    · rw [if_neg hjn, List.getElem?_eq_none]
      rw [hlen, List.length_set]
      omega
/-- Whoever acts is still there behind what he asks. -/
theorem set_at {l : List Pg} {t kg : Nat} {z z' : Pg} (hz : l[kg]? = some z) : ∃ z2, (l.set t z')[kg]? = some z2 := by
  have hk := (List.getElem?_eq_some_iff.1 hz).1
  exact ⟨_, List.getElem?_eq_getElem (by simpa using hk)⟩
theorem asksR_at {rs : List Pg} {ho gs g r : Int} {kg : Nat} {z : Pg} {i : Ins} (hz : rs[kg]? = some z) : ∃ z2, (asksR rs ho gs g kg r i).1[kg]? = some z2 := by
  unfold asksR
  split
  · unfold suspR
    split
    · exact ⟨z, hz⟩
    · split
      · exact ⟨z, hz⟩
      · split
        · exact ⟨z, hz⟩
        · split
          · exact ⟨z, hz⟩
          · split
            · exact ⟨z, hz⟩
            · split
              · exact ⟨z, hz⟩
              · exact set_at hz
  split
  · unfold resuR
    split
    · exact ⟨z, hz⟩
    · split
      · exact ⟨z, hz⟩
      · split
        · exact set_at hz
        · exact ⟨z, hz⟩
  split
  · unfold readyR
    split
    · exact ⟨z, hz⟩
    · split
      · exact ⟨z, hz⟩
      · split
        · exact ⟨z, hz⟩
        · exact set_at hz
  split
  · split
    · exact ⟨z, hz⟩
    · exact ⟨z, (List.getElem?_append_left (List.getElem?_eq_some_iff.1 hz).1).trans hz⟩
  split
  · exact ⟨z, hz⟩
  split
  · exact ⟨z, hz⟩
  · exact ⟨z, hz⟩
/-- The end of commit. -/
theorem ComS.finish {w V : World} {q q9 : Nat} {mv ins z5 mv9 : Array Value} {A : Option Addr} {n c : Nat} {rs : List Pg} (h : ComS w V q q9 mv ins z5 mv9 A n c rs) {u : Th} {B' : Option Addr} {d' : Nat} (ht : ThOk V V.heap.size u B' d') (hB : ∀ b, ob B' = some b → b ≠ q + 2) (cs : Array Value) :
    Below w.heap.size w (V.setRow (q + 2) cs) ∧ Row (V.setRow (q + 2) cs) (V.setRow (q + 2) cs).heap.size A (rs.flatMap pgVals) ∧ ThOk (V.setRow (q + 2) cs) (V.setRow (q + 2) cs).heap.size u B' d' := by
  refine ⟨below_setRow h.bel (by have := h.lo.1; omega) h.bel.size _, Own.rowN (Own.kept h.own (grown_setRow _ _ _) ?_), thok_mv ht (((Mv.refl [q + 2] V).setRow (q + 2) _ (by simp))) (fun _ b hb => by have := hB b hb; simpa using this)⟩
  cases hA : ob A with
  | none => exact .inl rfl
  | some b =>
    refine .inr fun e => ?_
    injection e with e
    exact (h.ne b hA).2.2.1 e
theorem thok_cell {V : World} {u : Th} {B' : Option Addr} {d' : Nat} (ht : ThOk V V.heap.size u B' d') (p : Addr) (v : Value) (hB : ∀ b, ob B' = some b → b ≠ p.block) : ThOk (V.setCell p v) (V.setCell p v).heap.size u B' d' :=
  thok_mv ht ((Mv.refl [p.block] V).set p v (by simp)) (fun _ b hb => by have := hB b hb; simpa using this)
/-- What commit answers. -/
def RComOut (w : World) (F : Option Addr) (fs : List Fn) (fc : Nat) (gs : Int) (kg : Nat) (rs2 : List Pg) (ho1 ow1 : Int) (s : Th × Int × Bool) (b : Bool) (e : Ending) (w' : World) : Prop :=
  ∃ A' n' c' ho' ow' told, e = .returned (.tuple #[.agg (MV F fs.length fc gs A' n' c' ho' ow'), .int .i64 told, .bool b]) ∧ Below w.heap.size w w' ∧
    (b = true → told = s.2.1 ∧ ∃ B' d' z2, rs2[kg]? = some z2 ∧ n' = rs2.length ∧ Row w' w'.heap.size A' ((rs2.set kg ⟨{ z2.x with th := s.1, beg := false }, B', d'⟩).flatMap pgVals) ∧ ThOk w' w'.heap.size s.1 B' d' ∧ (∀ x, ob A' = some x → w.heap.size ≤ x) ∧ (∀ x, ob B' = some x → w.heap.size ≤ x) ∧
      ho' = (if s.1.done = true ∧ ho1 = (kg : Int) + 1 then 0 else ho1) ∧ ow' = (if s.1.done = true ∧ ow1 = (kg : Int) + 1 then 0 else ow1))
/-- Whoever acts is still there behind what the world's instructions do. -/
theorem worldR_at {rs : List Pg} {ho ow g op : Int} {kg : Nat} {z : Pg} (hz : rs[kg]? = some z) : (worldR rs ho ow g kg z op).1.length = rs.length ∧ ∃ z1, (worldR rs ho ow g kg z op).1[kg]? = some z1 ∧ z1.x.th = z.x.th := by
  have hk := (List.getElem?_eq_some_iff.1 hz).1
  unfold worldR
  split
  · split <;> exact ⟨rfl, z, hz, rfl⟩
  split
  · split <;> exact ⟨rfl, z, hz, rfl⟩
  split
  · split <;> exact ⟨rfl, z, hz, rfl⟩
  split
  · split
    · exact ⟨rfl, z, hz, rfl⟩
    · exact ⟨List.length_set, _, List.getElem?_set_self hk, rfl⟩
  · exact ⟨rfl, z, hz, rfl⟩
set_option maxRecDepth 10000 in
set_option maxHeartbeats 16000000 in
theorem rcommit_any27 {w : World} {n c fc : Nat} {F A : Option Addr} {fs : List Fn} {M : Md} {rs : List Pg} {gs ho ow : Int} (hR : RIs w F fs M A rs) (hn : n = rs.length) (hgs : gs ≤ 100) (kg : Nat) (z : Pg) (hz : rs[kg]? = some z) (hdn : z.x.th.done = false) (i : Ins) (a : Nat) (ha : i.a = a) (ha8 : a < 8) {rs1 rs2 : List Pg} {ho1 ow1 ans : Int} {b1 b2 : Bool}
    (hwr : worldR rs ho ow ((kg : Int) + 1) kg z i.op = (rs1, ho1, ow1, b1)) (har : asksR rs1 ho1 gs ((kg : Int) + 1) kg (z.x.th.regs.getD a 0) i = (rs2, ans, b2)) :
    Calls Tryd.prog 40 #[.agg (MV F fs.length fc gs A n c ho ow), .int .i64 ((kg : Int) + 1), .agg (insArr i)] w (RComOut w F fs fc gs kg rs2 ho1 ow1 (stepT fs z.x.th ans) (b1 && b2)) := by
  have hkg : kg < rs.length := (List.getElem?_eq_some_iff.1 hz).1
  have hkn : kg < n := by omega
  have hn100 : n ≤ 100 := by have := hR.few; omega
  have hze : rs[kg] = z := by rw [List.getElem?_eq_getElem hkg] at hz; injection hz
  obtain ⟨g, off, rfl, hgl, hc0⟩ := pg_at hR.row hkg
  rw [hze] at hc0
  obtain ⟨q, HQ⟩ : ∃ q, Hid (q = w.heap.size) := ⟨_, Lib.hid rfl⟩
  obtain ⟨W, HW⟩ : ∃ V, Hid (V = ((w.alloc (.cells (MV F fs.length fc gs (some ⟨g, off, none⟩) n c ho ow) 47)).alloc (.cells (insArr i) 64)).alloc (.cells #[.slice none 0 0, .int .i64 0, .slice none 0 0, .int .i64 0, .int .i64 0] 47)) := ⟨_, Lib.hid rfl⟩
  have HBW := Lib.hid (show Below w.heap.size w W by rw [HW.out]; exact below3 w _ _ _)
  obtain ⟨h1, h2, h3⟩ := blk_three w 47 64 47 (MV F fs.length fc gs (some ⟨g, off, none⟩) n c ho ow) (insArr i) #[.slice none 0 0, .int .i64 0, .slice none 0 0, .int .i64 0, .int .i64 0]
  rw [← HW.out, ← HQ.out] at h1 h2 h3
  have H1 := Lib.hid h1
  have H2 := Lib.hid h2
  have H3 := Lib.hid h3
  have HRW := Lib.hid (hR.step HBW.out)
  have HN := Lib.hid hn
  have HGC := Lib.hid (show ∀ V, Below w.heap.size w V → ∀ j v, (pgVals z)[j]? = some v → V.cell? ⟨g, off + kg * 16 + j, none⟩ = some v from fun V hV j v hv => (Below.cell (p := ⟨g, off + kg * 16 + j, none⟩) hV hgl).trans (hc0 j v hv))
  have hzm : z ∈ rs := List.mem_of_getElem? hz
  have HTZ := Lib.hid (And.intro (hR.th z hzm) (hR.fits z hzm))
  have HPR := Lib.hid hR.prog
  have HZ := Lib.hid hz
  have HIA := Lib.hid (And.intro ha ha8)
  have HWR := Lib.hid hwr
  have HAR := Lib.hid har
  have HGS := Lib.hid hgs
  have HDN := Lib.hid hdn
  obtain ⟨hl1, z1, hz1, ht1⟩ := worldR_at (ho := ho) (ow := ow) (g := (kg : Int) + 1) (op := i.op) hz
  rw [hwr] at hl1 hz1
  obtain ⟨z2, hz2⟩ := asksR_at (ho := ho1) (gs := gs) (g := (kg : Int) + 1) (r := z.x.th.regs.getD a 0) (i := i) hz1
  rw [har] at hz2
  have HZ2 := Lib.hid hz2
  have HZ1 := Lib.hid (And.intro hz1 (And.intro ht1 (hn.trans hl1.symm)))
  have hw := HW.out
  unfold insArr at hw
  have hq := HQ.out
  clear hze
  clear hl1 hz1 ht1 hwr har hgs hdn hzm hz2
  clear h1 h2 h3 hc0 hgl hR hn hkg hz ha
  go_enter Tryd.func40, Tryd.ntmps40
  unfold insArr
  go_upto_region 1 with (fail)
  rw [← hw, ← hq]
  clear hw hq
  have HCP := Lib.hid (fun (V : World) (hV : Below W.heap.size W V) => (show Calls Tryd.prog 57 #[.agg (MV F fs.length fc gs (some ⟨g, off, none⟩) n c ho ow)] V (fun e w' => ∃ A' c', e = .returned (.agg (MV F fs.length fc gs A' n c' ho ow)) ∧ Own w' V.heap.size 77 16 A' n c' (rs.flatMap pgVals) ∧ Below V.heap.size V w') from copied_any (HRW.out.step hV) HN.out))
  have HWD := Lib.hid (fun (V : World) (A1 : Option Addr) (c1 : Nat) (hO : Own V w.heap.size 77 16 A1 n c1 (rs.flatMap pgVals)) => (world_any27 hO HN.out hn100 kg z HZ.out i.op : Calls Tryd.prog 59 #[.agg (MV F fs.length fc gs A1 n c1 ho ow), .int .i64 ((kg : Int) + 1), .int .i64 i.op] V (WldOut V w.heap.size F fs.length fc gs A1 n c1 _)))
  rw [HWR.out] at HWD
  have HSW := Lib.hid (show SA q (MV F fs.length fc gs (some ⟨g, off, none⟩) n c ho ow) (q + 1) (insArr i) W.drew from ⟨H1.out.drew, H2.out.drew⟩)
  have HDW := Lib.hid (show Below W.heap.size W W.drew from (Below.refl W.heap.size W).drew)
  have HLQ := Lib.hid (show w.heap.size ≤ q by rw [HQ.out]; exact Nat.le_refl _)
  have LD1 : ∀ w', SA q (MV F fs.length fc gs (some ⟨g, off, none⟩) n c ho ow) (q + 1) (insArr i) w' → (loadVar 47 ⟨q, 0, none⟩).run Tryd.prog w' = .ok (.agg (MV F fs.length fc gs (some ⟨g, off, none⟩) n c ho ow)) w' := fun w' h => run_loadVar_cells w' q 0 _ _ _ (fun j v hv => by rw [Nat.zero_add]; exact (Blk.cell h.1 j).trans hv) Tryd.underlying47 rfl (mv_info _ _ _ _ _ _ _ _ _)
  have D1 : ∀ w', SA q (MV F fs.length fc gs (some ⟨g, off, none⟩) n c ho ow) (q + 1) (insArr i) w' → w'.cell? ⟨q + 1, 0, none⟩ = some (.int .i64 i.op) := fun w' h => (Blk.cell h.2 0).trans rfl
  refine region_tree (SA q (MV F fs.length fc gs (some ⟨g, off, none⟩) n c ho ow) (q + 1) (insArr i)) (.two [0, 2, 3, 4] 1 (.two [] 5 (.one [6, 7, 8] 9 (.one [] 10 (.fin [11]))) 9 (.one [] 5 (.one [6, 7, 8] 10 (.fin [11])))) 9 (.one [] 1 (.one [] 5 (.one [6, 7, 8] 10 (.fin [11]))))) (by kernel_rfl) (by kernel_rfl) (by kernel_rfl) (fun _ _ d _ _ h => by cases d <;> exact h) HSW.out ?_
  (try simp only [Act.put, List.setIfInBounds_toArray, List.set_cons_zero, List.set_cons_succ]); refine tree_two ?_; simp only [pickOps, List.getElem?_toArray, List.getElem?_cons_zero, List.getElem?_cons_succ]; (repeat (first | (refine quiet_load_at (by rfl) 47 _ rfl ⟨q, 0, none⟩ rfl (MV F fs.length fc gs (some ⟨g, off, none⟩) n c ho ow) LD1 ?_; simp only [Act.put, List.setIfInBounds_toArray, List.set_cons_zero, List.set_cons_succ]) | go_big_quiet_skip | (go_big_quiet_want; first | (go_big_quiet_op; first | go_big_quiet_on | ((first | with_reducible refine ⟨_, fun _ _ => rfl, ?_⟩); go_big_quiet_on)) | (simp (contextual := true) [go_sem, D1]; with_reducible refine ⟨_, fun _ _ => rfl, ?_⟩; go_big_quiet_on)))); refine wpQuiet_nil ?_
  clear D1 LD1
  refine ⟨?_, ?_⟩
  · go_wp2_with (go_at_call 57; refine (HCP.out _ HDW.out).mono ?_; rintro e v1 ⟨A1, c1, rfl, ho1', hb1'⟩)
    have HO1 := Lib.hid (own_base ho1' HBW.out.size)
    have HB1 := Lib.hid (HDW.out.trans (hb1'.mono HDW.out.size))
    have HF1 := Lib.hid (show ∀ b, ob A1 = some b → q + 2 < b from fun b hb => by have h1 := (ho1'.lt b hb).1; have h2 := H3.out.lt; have h3 : W.drew.heap.size = W.heap.size := rfl; omega)
    have HR1 := Lib.hid (show Raw w v1 q (MV F fs.length fc gs (some ⟨g, off, none⟩) n c ho ow) (insArr i) #[.slice none 0 0, .int .i64 0, .slice none 0 0, .int .i64 0, .int .i64 0] A1 n c1 rs from ⟨H1.out.below HB1.out H1.out.lt, H2.out.below HB1.out H2.out.lt, H3.out.below HB1.out H3.out.lt, HO1.out, HF1.out, HBW.out.trans (HB1.out.mono HBW.out.size), HLQ.out⟩)
    clear ho1' hb1'
    refine ⟨SA q (MV F fs.length fc gs (some ⟨g, off, none⟩) n c ho ow) (q + 1) (insArr i), ⟨HR1.out.h1, HR1.out.h2⟩, fun _ h => h, ?_⟩
    (try simp only [Act.put, List.setIfInBounds_toArray, List.set_cons_zero, List.set_cons_succ]); refine tree_two ?_; simp only [pickOps, List.getElem?_toArray, List.getElem?_cons_zero, List.getElem?_cons_succ]; (repeat (first | go_big_quiet_skip | (go_big_quiet_want; first | (go_big_quiet_op; first | go_big_quiet_on | ((first | with_reducible refine ⟨_, fun _ _ => rfl, ?_⟩); go_big_quiet_on)) | (simp (contextual := true) [go_sem, HN]; with_reducible refine ⟨_, fun _ _ => rfl, ?_⟩; go_big_quiet_on)))); refine wpQuiet_nil ?_
    refine ⟨?_, ?_⟩
    · go_wp2_with (go_at_call 59; refine (HWD.out _ _ _ HO1.out).mono ?_; rintro e v2 ⟨rfl, ho2', hm2'⟩)
      have HR2 := Lib.hid (Raw.row HR1.out hm2' ho2')
      clear ho2' hm2'
      refine ⟨SA q (MV F fs.length fc gs (some ⟨g, off, none⟩) n c ho ow) (q + 1) (insArr i), ⟨HR2.out.h1, HR2.out.h2⟩, fun _ h => h, ?_⟩
      (try simp only [Act.put, List.setIfInBounds_toArray, List.set_cons_zero, List.set_cons_succ]); refine tree_one ?_; simp only [pickOps, List.getElem?_toArray, List.getElem?_cons_zero, List.getElem?_cons_succ]; (repeat (first | go_big_quiet_skip | (go_big_quiet_want; first | (go_big_quiet_op; first | go_big_quiet_on | ((first | with_reducible refine ⟨_, fun _ _ => rfl, ?_⟩); go_big_quiet_on)) | (simp (contextual := true) [go_sem, HN]; with_reducible refine ⟨_, fun _ _ => rfl, ?_⟩; go_big_quiet_on)))); refine wpQuiet_nil ?_
      go_wp2_with fail
      have HK0 := Lib.hid (Raw.late HR2.out #[.slice none 0 0, .int .i64 0, .slice none 0 0, .int .i64 0, .int .i64 0])
      obtain ⟨v3, HV3⟩ : ∃ V, Hid (V = v2.alloc (.cells #[.slice none 0 0, .int .i64 0, .slice none 0 0, .int .i64 0, .int .i64 0] 47)) := ⟨_, Lib.hid rfl⟩
      obtain ⟨q9, HQ9⟩ : ∃ x, Hid (x = v2.heap.size) := ⟨_, Lib.hid rfl⟩
      rw [← HV3.out, ← HQ9.out] at HK0 ⊢
      refine ⟨SA q (MV F fs.length fc gs (some ⟨g, off, none⟩) n c ho ow) (q + 1) (insArr i), ⟨HK0.out.h1, HK0.out.h2⟩, fun _ h => h, ?_⟩
      (try simp only [Act.put, List.setIfInBounds_toArray, List.set_cons_zero, List.set_cons_succ]); refine tree_one ?_; simp only [pickOps, List.getElem?_toArray, List.getElem?_cons_zero, List.getElem?_cons_succ]; (repeat (first | go_big_quiet_skip | (go_big_quiet_want; first | (go_big_quiet_op; first | go_big_quiet_on | ((first | with_reducible refine ⟨_, fun _ _ => rfl, ?_⟩); go_big_quiet_on)) | (simp (contextual := true) [go_sem, HN]; with_reducible refine ⟨_, fun _ _ => rfl, ?_⟩; go_big_quiet_on)))); refine wpQuiet_nil ?_
      go_wp2_with (refine wpList_store_row rfl 47 _ _ rfl (q9) (MV F fs.length fc gs A1 n c1 ho1 ow1) rfl rfl 47 _ HK0.out.h9 (mv_info _ _ _ _ _ _ _ _ _) (mv_size _ _ _ _ _ _ _ _ _).symm (mv_one _ _ _ _ _ _ _ _ _) ?_)
      have HC := Lib.hid (ComS.box HK0.out (MV F fs.length fc gs A1 n c1 ho1 ow1))
      obtain ⟨v5, HV5⟩ : ∃ V, Hid (V = v3.setRow q9 (MV F fs.length fc gs A1 n c1 ho1 ow1)) := ⟨_, Lib.hid rfl⟩
      rw [← HV5.out] at HC ⊢
      refine ⟨SA q (MV F fs.length fc gs (some ⟨g, off, none⟩) n c ho ow) (q + 1) (insArr i), ⟨HC.out.h1, HC.out.h2⟩, fun _ h => h, ?_⟩
      (try simp only [Act.put]); refine tree_fin ?_; simp only [pickOps, List.getElem?_toArray, List.getElem?_cons_zero, List.getElem?_cons_succ]; (repeat (first | go_big_quiet_skip | (go_big_quiet_want; first | (go_big_quiet_op; first | go_big_quiet_on | ((first | with_reducible refine ⟨_, fun _ _ => rfl, ?_⟩); go_big_quiet_on)) | (simp (contextual := true) [go_sem, HN]; with_reducible refine ⟨_, fun _ _ => rfl, ?_⟩; go_big_quiet_on)))); refine wpQuiet_nil ?_
      cases b1 with
      | false =>
        go_upto_region 3 with (fail)
        go_wp2_with (first | (refine wpList_load_row rfl 47 _ rfl (q) rfl 47 (MV F fs.length fc gs (some ⟨g, off, none⟩) n c ho ow) (0, 0) _ HC.out.h1 Tryd.underlying47 rfl (mv_info _ _ _ _ _ _ _ _ _) ?_) | (refine wpList_store_row rfl 47 _ _ rfl (q + 2) (MV F fs.length fc gs (some ⟨g, off, none⟩) n c ho ow) rfl rfl 47 _ HC.out.h3 (mv_info _ _ _ _ _ _ _ _ _) (mv_size _ _ _ _ _ _ _ _ _).symm (mv_one _ _ _ _ _ _ _ _ _) ?_))
        refine bodyPost_ret (results_cell3 Tryd.results40 _ _ (q + 2) 47 (MV F fs.length fc gs (some ⟨g, off, none⟩) n c ho ow) (0, 0) _ rfl (Blk.setRow HC.out.h3 _) Tryd.underlying47 rfl (mv_info _ _ _ _ _ _ _ _ _)) rfl ?_
        exact ⟨_, _, _, _, _, 0, rfl, below_setRow HC.out.bel (by have := HC.out.lo.1; omega) HC.out.bel.size _, fun h => by cases h⟩
      | true =>
        go_upto_region 4 with (fail)
        have j0 : v5.cell? ⟨q + 1, 0, none⟩ = some (.int .i64 i.op) := (HC.out.h2.cell 0).trans rfl
        have j1 : v5.cell? ⟨q + 1, 1, none⟩ = some (.int .i64 i.a) := (HC.out.h2.cell 1).trans rfl
        have j2 : v5.cell? ⟨q + 1, 2, none⟩ = some (.int .i64 i.b) := (HC.out.h2.cell 2).trans rfl
        have j3 : v5.cell? ⟨q + 1, 3, none⟩ = some (.int .i64 i.c) := (HC.out.h2.cell 3).trans rfl
        have j4 : v5.cell? ⟨q + 1, 4, none⟩ = some (.int .i64 i.n) := (HC.out.h2.cell 4).trans rfl
        have HAS := Lib.hid (asks_any27 (F := F) (nf := fs.length) (fc := fc) (gs := gs) (ho := ho1) (ow := ow1) HC.out.own HZ1.out.2.2 HC.out.bel.size hn100 HGS.out kg z1 HZ1.out.1 i a HIA.out.1 HIA.out.2)
        rw [HZ1.out.2.1, HAR.out] at HAS
        unfold insArr at HAS
        go_wp2_with (refine wpList_load_row rfl 47 _ rfl (q9) rfl 47 (MV F fs.length fc gs A1 n c1 ho1 ow1) (0, 0) _ HC.out.h9 Tryd.underlying47 rfl (mv_info _ _ _ _ _ _ _ _ _) ?_)
        refine HAS.out.mono ?_
        rintro e v6 ⟨A2, n2, c2, rfl, hn2, ho2', hm2', ha2'⟩
        have HC2 := Lib.hid (ComS.row HC.out hm2' ho2' ha2')
        have HN2 := Lib.hid hn2
        clear hn2 ho2' hm2' ha2' j0 j1 j2 j3 j4 HAS
        go_upto_region 5 with (refine wpList_store_row rfl 47 _ _ rfl (q9) (MV F fs.length fc gs A2 n2 c2 ho1 ow1) rfl rfl 47 _ HC2.out.h9 (mv_info _ _ _ _ _ _ _ _ _) (mv_size _ _ _ _ _ _ _ _ _).symm (mv_one _ _ _ _ _ _ _ _ _) ?_)
        obtain ⟨v7, HV7⟩ : ∃ V, Hid (V = v6.setRow q9 (MV F fs.length fc gs A2 n2 c2 ho1 ow1)) := ⟨_, Lib.hid rfl⟩
        have HC3 := Lib.hid (ComS.box HC2.out (MV F fs.length fc gs A2 n2 c2 ho1 ow1))
        rw [← HV7.out] at HC3 ⊢
        cases b2 with
        | false =>
          go_upto_region 6 with (fail)
          go_wp2_with (first | (refine wpList_load_row rfl 47 _ rfl (q) rfl 47 (MV F fs.length fc gs (some ⟨g, off, none⟩) n c ho ow) (0, 0) _ HC3.out.h1 Tryd.underlying47 rfl (mv_info _ _ _ _ _ _ _ _ _) ?_) | (refine wpList_store_row rfl 47 _ _ rfl (q + 2) (MV F fs.length fc gs (some ⟨g, off, none⟩) n c ho ow) rfl rfl 47 _ HC3.out.h3 (mv_info _ _ _ _ _ _ _ _ _) (mv_size _ _ _ _ _ _ _ _ _).symm (mv_one _ _ _ _ _ _ _ _ _) ?_))
          refine bodyPost_ret (results_cell3 Tryd.results40 _ _ (q + 2) 47 (MV F fs.length fc gs (some ⟨g, off, none⟩) n c ho ow) (0, 0) _ rfl (Blk.setRow HC3.out.h3 _) Tryd.underlying47 rfl (mv_info _ _ _ _ _ _ _ _ _)) rfl ?_
          exact ⟨_, _, _, _, _, 0, rfl, below_setRow HC3.out.bel (by have := HC3.out.lo.1; omega) HC3.out.bel.size _, fun h => by cases h⟩
        | true =>
          go_upto_region 7 with (fail)
          have PL : ∀ w', SB27 v7 w' → (loadVar 24 ⟨q, 0, none⟩).run Tryd.prog w' = .ok (.agg #[.slice F fs.length fc]) w' := fun w' h => run_loadVar_cells w' q 0 _ _ _ (fun j v hv => by
            have hj : j = 0 := by
              have := (Array.getElem?_eq_some_iff.1 hv).1
              simp at this
              omega
            subst hj
            rw [← hv]
            exact (Blk.cell (HC3.out.h1.below h HC3.out.h1.lt) 0).trans rfl) Tryd.underlying24 rfl (Tryd.infoPr1 _)
          have C2 : ∀ w', SB27 v7 w' → w'.cell? ⟨q, 2, none⟩ = some (.slice (some ⟨g, off, none⟩) n c) := fun w' h => (Blk.cell (HC3.out.h1.below h HC3.out.h1.lt) 2).trans rfl
          have LT : ∀ w', SB27 v7 w' → (loadVar 56 ⟨g, off + kg * 16, none⟩).run Tryd.prog w' = .ok (.agg (thArr z.x.th z.B z.d)) w' := fun w' h => run_loadVar_cells w' g (off + kg * 16) _ _ _ (fun j v hv => by
            have hj : j < 12 := by
              have := (Array.getElem?_eq_some_iff.1 hv).1
              rw [thArr_size z.B z.d HTZ.out.1.regs] at this
              exact this
            exact HGC.out w' (HC3.out.bel.trans (Below.mono h HC3.out.bel.size)) j v ((pg_th z HTZ.out.1.regs j hj).trans hv)) Tryd.underlying56 rfl (by rw [thArr_size z.B z.d HTZ.out.1.regs]; exact Tryd.infoTh)
          have HSTP := Lib.hid (fun (V : World) (hV : Below v7.heap.size v7 V) => rStep_run z.x.th F z.B fc z.d fs ans V HPR.out.2 (HPR.out.1.step (HC3.out.bel.trans (hV.mono HC3.out.bel.size))) (HTZ.out.1.step (HC3.out.bel.trans (hV.mono HC3.out.bel.size))) HTZ.out.2 HDN.out)
          obtain ⟨u, told, bo, HSE⟩ : ∃ u told bo, Hid (stepT fs z.x.th ans = (u, told, bo)) := ⟨_, _, _, Lib.hid rfl⟩
          rw [HSE.out] at HSTP
          have HVD := Lib.hid (show SB27 v7 v7.drew from (Below.refl _ v7).drew)
          refine region_tree (SB27 v7) (.two [0, 1, 2, 3, 4, 5, 6, 7, 8, 9] 10 (.one [11, 12, 13, 14] 15 (.one [] 16 (.fin [17, 18]))) 15 (.one [] 10 (.one [11, 12, 13, 14] 16 (.fin [17, 18])))) (by kernel_rfl) (by kernel_rfl) (by kernel_rfl) (fun _ _ d _ _ h => by cases d <;> exact h) HVD.out ?_
          (try simp only [Act.put]); refine tree_two ?_; simp only [pickOps, List.getElem?_toArray, List.getElem?_cons_zero, List.getElem?_cons_succ]; (repeat (first | (refine quiet_load_at (by rfl) 24 _ rfl ⟨q, 0, none⟩ rfl #[.slice F fs.length fc] PL ?_; simp only [Act.put, List.setIfInBounds_toArray, List.set_cons_zero, List.set_cons_succ]) | (refine quiet_load_at (by rfl) 56 _ rfl ⟨g, off + kg * 16, none⟩ rfl (thArr z.x.th z.B z.d) LT ?_; simp only [Act.put, List.setIfInBounds_toArray, List.set_cons_zero, List.set_cons_succ]) | go_big_quiet_skip | (go_big_quiet_want; first | (go_big_quiet_op; first | go_big_quiet_on | ((first | with_reducible refine ⟨_, fun _ _ => rfl, ?_⟩); go_big_quiet_on)) | (simp (contextual := true) [go_sem, C2]; with_reducible refine ⟨_, fun _ _ => rfl, ?_⟩; go_big_quiet_on)))); refine wpQuiet_nil ?_
          clear PL C2 LT
          refine ⟨?_, ?_⟩
          · go_wp2_with (go_at_call 61; refine (HSTP.out _ HVD.out).mono ?_; rintro e v8 ⟨B', d', rfl, hth, hfr, hb⟩)
            have HB8 := Lib.hid (show SB27 v7 v8 from Below.trans HVD.out (hb.mono (Below.size HVD.out)))
            have HT8 := Lib.hid hth
            have HFR := Lib.hid (show ∀ b, ob B' = some b → v7.heap.size ≤ b from hfr)
            have HZ0 := Lib.hid (show (Tryd.prog.info? 56).map (·.size) = some (thArr u B' d').size by rw [thArr_size B' d' hth.regs]; exact Tryd.infoTh)
            have HZ12 := Lib.hid (show (12 : Nat) = (thArr u B' d').size from (thArr_size B' d' hth.regs).symm)
            clear hth hfr hb
            refine ⟨SB27 v7, HB8.out, fun _ h => h, ?_⟩
            (try simp only [Act.put, List.setIfInBounds_toArray, List.set_cons_zero, List.set_cons_succ]); refine tree_one ?_; simp only [pickOps, List.getElem?_toArray, List.getElem?_cons_zero, List.getElem?_cons_succ]; (repeat (first | go_big_quiet_skip | (go_big_quiet_want; first | (go_big_quiet_op; first | go_big_quiet_on | ((first | with_reducible refine ⟨_, fun _ _ => rfl, ?_⟩); go_big_quiet_on)) | (simp (contextual := true) [go_sem, HN]; with_reducible refine ⟨_, fun _ _ => rfl, ?_⟩; go_big_quiet_on)))); refine wpQuiet_nil ?_
            go_wp2_with fail
            refine ⟨SB27 v7, Below.alloc HB8.out (Below.size HB8.out) _, fun _ h => h, ?_⟩
            (try simp only [Act.put]); refine tree_one ?_; simp only [pickOps, List.getElem?_toArray, List.getElem?_cons_zero, List.getElem?_cons_succ]; (repeat (first | go_big_quiet_skip | (go_big_quiet_want; first | (go_big_quiet_op; first | go_big_quiet_on | ((first | with_reducible refine ⟨_, fun _ _ => rfl, ?_⟩); go_big_quiet_on)) | (simp (contextual := true) [go_sem, HN]; with_reducible refine ⟨_, fun _ _ => rfl, ?_⟩; go_big_quiet_on)))); refine wpQuiet_nil ?_
            go_wp2_with (refine wpList_store_row rfl 56 _ _ rfl v8.heap.size (thArr u B' d') rfl rfl 56 _ (Blk.new v8 _ _) HZ0.out HZ12.out (thArr_one u B' d') ?_)
            obtain ⟨v9, HV9⟩ : ∃ X, Hid (X = (v8.alloc (.cells #[.int .i64 0, .int .i64 0, .int .i64 0, .int .i64 0, .int .i64 0, .int .i64 0, .int .i64 0, .int .i64 0, .int .i64 0, .int .i64 0, .slice none 0 0, .bool false] 56)).setRow v8.heap.size (thArr u B' d')) := ⟨_, Lib.hid rfl⟩
            obtain ⟨q5, HQ5⟩ : ∃ x, Hid (x = v8.heap.size) := ⟨_, Lib.hid rfl⟩
            have HB9 := Lib.hid (show SB27 v7 v9 by rw [HV9.out]; exact below_setRow (Below.alloc HB8.out (Below.size HB8.out) _) (Below.size HB8.out) (Below.size (Below.alloc HB8.out (Below.size HB8.out) _)) _)
            have HK5 := Lib.hid (show Blk v9 q5 56 (thArr u B' d') by rw [HV9.out, HQ5.out]; exact (Blk.new v8 _ _).setRow _)
            have HL5 := Lib.hid (show v7.heap.size ≤ q5 by rw [HQ5.out]; exact Below.size HB8.out)
            have HT9 := Lib.hid (show ThOk v9 v9.heap.size u B' d' by
              have hb := below_setRow ((Below.refl v8.heap.size v8).alloc (Nat.le_refl _) (.cells #[.int .i64 0, .int .i64 0, .int .i64 0, .int .i64 0, .int .i64 0, .int .i64 0, .int .i64 0, .int .i64 0, .int .i64 0, .int .i64 0, .slice none 0 0, .bool false] 56)) (Nat.le_refl _) (by rw [World.size_alloc]; omega) (thArr u B' d')
              rw [HV9.out]
              exact HT8.out.step hb)
            rw [← HV9.out, ← HQ5.out]
            refine ⟨SB27 v7, HB9.out, fun _ h => h, ?_⟩
            (try simp only [Act.put]); refine tree_fin ?_; simp only [pickOps, List.getElem?_toArray, List.getElem?_cons_zero, List.getElem?_cons_succ]; (repeat (first | go_big_quiet_skip | (go_big_quiet_want; first | (go_big_quiet_op; first | go_big_quiet_on | ((first | with_reducible refine ⟨_, fun _ _ => rfl, ?_⟩); go_big_quiet_on)) | (simp (contextual := true) [go_sem, HN]; with_reducible refine ⟨_, fun _ _ => rfl, ?_⟩; go_big_quiet_on)))); refine wpQuiet_nil ?_
            clear HV9 HQ5 HT8 HB8 HZ0 HSTP HVD
            have HC4 := Lib.hid (ComS.step HC3.out HB9.out)
            obtain ⟨g2, cur, rfl, hcb, hcs, hown2⟩ := own_thread HC4.out.own HN2.out HZ2.out u B' d' HT9.out.regs
            have HG2 := Lib.hid (show g2 < v7.heap.size from (HC3.out.own.lt g2 rfl).2)
            have hq7 := HC3.out.h3.lt
            have hq97 := HC3.out.h9.lt
            have HBN := Lib.hid (show ∀ b, ob B' = some b → b ≠ q + 2 ∧ b ≠ q9 from fun b hb => by have := HFR.out b hb; omega)
            have hkn2 : kg < n2 := by rw [HN2.out]; exact (List.getElem?_eq_some_iff.1 HZ2.out).1
            have HCB := Lib.hid hcb
            have HCS := Lib.hid hcs
            have HSZU := Lib.hid (show (Tryd.prog.info? 56).map (·.size) = some (thArr u B' d').size by rw [thArr_size B' d' HT9.out.regs]; exact Tryd.infoTh)
            obtain ⟨v10, HV10⟩ : ∃ X, Hid (X = v9.setRow g2 (splice cur (kg * 16) (thArr u B' d'))) := ⟨_, Lib.hid rfl⟩
            rw [← HV10.out] at hown2
            have HM10 := Lib.hid (show Mv (ob (some ⟨g2, 0, none⟩ : Option Addr)).toList v9 v10 by rw [HV10.out]; exact (Mv.refl _ _).setRow g2 _ (by simp [ob]))
            have HC5 := Lib.hid (ComS.row HC4.out HM10.out hown2 (.inl rfl))
            have HK10 := Lib.hid (HM10.out.blk HK5.out (by have h1 := HG2.out; have h2 := HL5.out; intro hc; have h3 : q5 = g2 := (by simpa [ob] using hc); omega))
            have HT10 := Lib.hid (thok_mv HT9.out HM10.out (fun _ b hb => by have h1 := HG2.out; have h2 := HFR.out b hb; intro hc; have h3 : b = g2 := (by simpa [ob] using hc); omega))
            have hk3 : kg < (rs2.set kg ⟨{ z2.x with th := u }, B', d'⟩).length := by rw [List.length_set]; exact (List.getElem?_eq_some_iff.1 HZ2.out).1
            obtain ⟨g3, hge, -, -, hcc, hfz, hset⟩ := own_pg HC5.out.own (by rw [List.length_set]; exact HN2.out) hk3
            obtain rfl : g2 = g3 := by injection hge with hge; injection hge with hge
            rw [List.getElem_set_self] at hcc hset
            have y15 := hcc 15 _ rfl
            have f15 := hfz 15
            obtain ⟨ho11, -⟩ := hset 15 (.bool false) ⟨{ z2.x with th := u, beg := false }, B', d'⟩ (by decide) rfl
            rw [List.set_set] at ho11
            obtain ⟨v11, HV11⟩ : ∃ X, Hid (X = v10.setCell ⟨g2, kg * 16 + 15, none⟩ (.bool false)) := ⟨_, Lib.hid rfl⟩
            rw [← HV11.out] at ho11
            have HM11 := Lib.hid (show Mv (ob (some ⟨g2, 0, none⟩ : Option Addr)).toList v10 v11 by rw [HV11.out]; exact (Mv.refl _ _).set _ _ (by simp [ob]))
            have HC6 := Lib.hid (ComS.row HC5.out HM11.out ho11 (.inl rfl))
            have HK11 := Lib.hid (HM11.out.blk HK10.out (by have h1 := HG2.out; have h2 := HL5.out; intro hc; have h3 : q5 = g2 := (by simpa [ob] using hc); omega))
            have HT11 := Lib.hid (thok_mv HT10.out HM11.out (fun _ b hb => by have h1 := HG2.out; have h2 := HFR.out b hb; intro hc; have h3 : b = g2 := (by simpa [ob] using hc); omega))
            have o29 := (mv_cells HC4.out.h9).2.2.1
            have o210 := (mv_cells HC5.out.h9).2.2.1
            obtain ⟨-, -, -, p3, p4⟩ := mv_cells HC6.out.h9
            have fp3 := HC6.out.h9.frozen 3
            have fp4 := HC6.out.h9.frozen 4
            have p4b := (mv_cells (F := F) (A := some ⟨g2, 0, none⟩) (ComS.field HC6.out 3 (.int .i64 0)).h9).2.2.2.2
            have d11 : v11.cell? ⟨q5, 11, none⟩ = some (.bool u.done) := (HK11.out.cell 11).trans (thArr_11 _ _ HT11.out.regs)
            have d11b : (v11.setCell ⟨q9, 3, none⟩ (.int .i64 0)).cell? ⟨q5, 11, none⟩ = some (.bool u.done) := ((HK11.out.far (p := ⟨q9, 3, none⟩) (by have h2 := HL5.out; show q5 ≠ q9; omega) _).cell 11).trans (thArr_11 _ _ HT11.out.regs)
            have hv10 := HV10.out
            clear hcb hcs hown2 hge hcc hfz hset ho11 hk3 hq7 hq97
            go_upto_region 9 with (first | (refine wpList_load_rowW (by rfl) 56 _ rfl q5 rfl 56 (thArr u B' d') (0, 0) _ HK5.out Tryd.underlying56 rfl HSZU.out ?_) | (refine wpList_store_sub rfl 56 _ _ rfl g2 (kg * 16) (thArr u B' d') rfl rfl 77 _ HCB.out HSZU.out HCS.out (thArr_one u B' d') ?_; rw [← hv10]; clear hv10))
            clear o29
            go_upto_region 10 with (fail)
            rw [← HV11.out]
            clear y15 f15 o210
            cases hud : u.done with
            | false =>
              rw [hud] at d11 d11b
              have HUD := Lib.hid hud
              clear hud
              go_upto_region 14 with (fail)
              have HK8F := Lib.hid (HC6.out)
              have HT8F := Lib.hid (HT11.out)
              go_wp2_with (first | (refine wpList_load_row rfl 47 _ rfl (q9) rfl 47 (MV F fs.length fc gs (some ⟨g2, 0, none⟩) n2 c2 ho1 ow1) (0, 0) _ HK8F.out.h9 Tryd.underlying47 rfl (mv_info _ _ _ _ _ _ _ _ _) ?_) | (refine wpList_store_row rfl 47 _ _ rfl (q + 2) (MV F fs.length fc gs (some ⟨g2, 0, none⟩) n2 c2 ho1 ow1) rfl rfl 47 _ HK8F.out.h3 (mv_info _ _ _ _ _ _ _ _ _) (mv_size _ _ _ _ _ _ _ _ _).symm (mv_one _ _ _ _ _ _ _ _ _) ?_))
              refine bodyPost_ret (results_cell3 Tryd.results40 _ _ (q + 2) 47 (MV F fs.length fc gs (some ⟨g2, 0, none⟩) n2 c2 ho1 ow1) (0, 0) _ rfl (Blk.setRow HK8F.out.h3 _) Tryd.underlying47 rfl (mv_info _ _ _ _ _ _ _ _ _)) rfl ?_
              rw [HSE.out]
              obtain ⟨x1, x2, x3⟩ := ComS.finish HK8F.out HT8F.out (fun b hb => (HBN.out b hb).1) (MV F fs.length fc gs (some ⟨g2, 0, none⟩) n2 c2 ho1 ow1)
              exact ⟨some ⟨g2, 0, none⟩, n2, c2, ho1, ow1, told, rfl, x1, fun _ => ⟨rfl, B', d', z2, HZ2.out, HN2.out, x2, x3, (fun x hx => (HC6.out.own.lt x hx).1), (fun x hx => Nat.le_trans HC3.out.bel.size (HFR.out x hx)), by rw [if_neg (fun h => by rw [HUD.out] at h; cases h.1)], by rw [if_neg (fun h => by rw [HUD.out] at h; cases h.1)]⟩⟩
            | true =>
              rw [hud] at d11 d11b
              have HUD := Lib.hid hud
              clear hud
              by_cases hx : ho1 = (kg : Int) + 1
              · have x1 : (ho1 == (kg : Int) + 1) = true := by simpa using hx
                have HX := Lib.hid hx
                by_cases hy : ow1 = (kg : Int) + 1
                · have x2 : (ow1 == (kg : Int) + 1) = true := by simpa using hy
                  have HY := Lib.hid hy
                  clear hx hy
                  go_upto_region 14 with (fail)
                  have HK8F := Lib.hid ((ComS.field (ComS.field HC6.out 3 (.int .i64 0)) 4 (.int .i64 0)))
                  have HT8F := Lib.hid (thok_cell (thok_cell HT11.out ⟨q9, 3, none⟩ (.int .i64 0) (fun b hb => (HBN.out b hb).2)) ⟨q9, 4, none⟩ (.int .i64 0) (fun b hb => (HBN.out b hb).2))
                  go_wp2_with (first | (refine wpList_load_row rfl 47 _ rfl (q9) rfl 47 (MV F fs.length fc gs (some ⟨g2, 0, none⟩) n2 c2 0 0) (0, 0) _ HK8F.out.h9 Tryd.underlying47 rfl (mv_info _ _ _ _ _ _ _ _ _) ?_) | (refine wpList_store_row rfl 47 _ _ rfl (q + 2) (MV F fs.length fc gs (some ⟨g2, 0, none⟩) n2 c2 0 0) rfl rfl 47 _ HK8F.out.h3 (mv_info _ _ _ _ _ _ _ _ _) (mv_size _ _ _ _ _ _ _ _ _).symm (mv_one _ _ _ _ _ _ _ _ _) ?_))
                  refine bodyPost_ret (results_cell3 Tryd.results40 _ _ (q + 2) 47 (MV F fs.length fc gs (some ⟨g2, 0, none⟩) n2 c2 0 0) (0, 0) _ rfl (Blk.setRow HK8F.out.h3 _) Tryd.underlying47 rfl (mv_info _ _ _ _ _ _ _ _ _)) rfl ?_
                  rw [HSE.out]
                  obtain ⟨x1, x2, x3⟩ := ComS.finish HK8F.out HT8F.out (fun b hb => (HBN.out b hb).1) (MV F fs.length fc gs (some ⟨g2, 0, none⟩) n2 c2 0 0)
                  exact ⟨some ⟨g2, 0, none⟩, n2, c2, 0, 0, told, rfl, x1, fun _ => ⟨rfl, B', d', z2, HZ2.out, HN2.out, x2, x3, (fun x hx => (HC6.out.own.lt x hx).1), (fun x hx => Nat.le_trans HC3.out.bel.size (HFR.out x hx)), by rw [if_pos ⟨HUD.out, HX.out⟩], by rw [if_pos ⟨HUD.out, HY.out⟩]⟩⟩
                · have x2 : (ow1 == (kg : Int) + 1) = false := by simpa using hy
                  have HY := Lib.hid hy
                  clear hx hy
                  go_upto_region 14 with (fail)
                  have HK8F := Lib.hid ((ComS.field HC6.out 3 (.int .i64 0)))
                  have HT8F := Lib.hid (thok_cell HT11.out ⟨q9, 3, none⟩ (.int .i64 0) (fun b hb => (HBN.out b hb).2))
                  go_wp2_with (first | (refine wpList_load_row rfl 47 _ rfl (q9) rfl 47 (MV F fs.length fc gs (some ⟨g2, 0, none⟩) n2 c2 0 ow1) (0, 0) _ HK8F.out.h9 Tryd.underlying47 rfl (mv_info _ _ _ _ _ _ _ _ _) ?_) | (refine wpList_store_row rfl 47 _ _ rfl (q + 2) (MV F fs.length fc gs (some ⟨g2, 0, none⟩) n2 c2 0 ow1) rfl rfl 47 _ HK8F.out.h3 (mv_info _ _ _ _ _ _ _ _ _) (mv_size _ _ _ _ _ _ _ _ _).symm (mv_one _ _ _ _ _ _ _ _ _) ?_))
                  refine bodyPost_ret (results_cell3 Tryd.results40 _ _ (q + 2) 47 (MV F fs.length fc gs (some ⟨g2, 0, none⟩) n2 c2 0 ow1) (0, 0) _ rfl (Blk.setRow HK8F.out.h3 _) Tryd.underlying47 rfl (mv_info _ _ _ _ _ _ _ _ _)) rfl ?_
                  rw [HSE.out]
                  obtain ⟨x1, x2, x3⟩ := ComS.finish HK8F.out HT8F.out (fun b hb => (HBN.out b hb).1) (MV F fs.length fc gs (some ⟨g2, 0, none⟩) n2 c2 0 ow1)
                  exact ⟨some ⟨g2, 0, none⟩, n2, c2, 0, ow1, told, rfl, x1, fun _ => ⟨rfl, B', d', z2, HZ2.out, HN2.out, x2, x3, (fun x hx => (HC6.out.own.lt x hx).1), (fun x hx => Nat.le_trans HC3.out.bel.size (HFR.out x hx)), by rw [if_pos ⟨HUD.out, HX.out⟩], by rw [if_neg (fun h => HY.out h.2)]⟩⟩
              · have x1 : (ho1 == (kg : Int) + 1) = false := by simpa using hx
                have HX := Lib.hid hx
                by_cases hy : ow1 = (kg : Int) + 1
                · have x2 : (ow1 == (kg : Int) + 1) = true := by simpa using hy
                  have HY := Lib.hid hy
                  clear hx hy
                  go_upto_region 14 with (fail)
                  have HK8F := Lib.hid ((ComS.field HC6.out 4 (.int .i64 0)))
                  have HT8F := Lib.hid (thok_cell HT11.out ⟨q9, 4, none⟩ (.int .i64 0) (fun b hb => (HBN.out b hb).2))
                  go_wp2_with (first | (refine wpList_load_row rfl 47 _ rfl (q9) rfl 47 (MV F fs.length fc gs (some ⟨g2, 0, none⟩) n2 c2 ho1 0) (0, 0) _ HK8F.out.h9 Tryd.underlying47 rfl (mv_info _ _ _ _ _ _ _ _ _) ?_) | (refine wpList_store_row rfl 47 _ _ rfl (q + 2) (MV F fs.length fc gs (some ⟨g2, 0, none⟩) n2 c2 ho1 0) rfl rfl 47 _ HK8F.out.h3 (mv_info _ _ _ _ _ _ _ _ _) (mv_size _ _ _ _ _ _ _ _ _).symm (mv_one _ _ _ _ _ _ _ _ _) ?_))
                  refine bodyPost_ret (results_cell3 Tryd.results40 _ _ (q + 2) 47 (MV F fs.length fc gs (some ⟨g2, 0, none⟩) n2 c2 ho1 0) (0, 0) _ rfl (Blk.setRow HK8F.out.h3 _) Tryd.underlying47 rfl (mv_info _ _ _ _ _ _ _ _ _)) rfl ?_
                  rw [HSE.out]
                  obtain ⟨x1, x2, x3⟩ := ComS.finish HK8F.out HT8F.out (fun b hb => (HBN.out b hb).1) (MV F fs.length fc gs (some ⟨g2, 0, none⟩) n2 c2 ho1 0)
                  exact ⟨some ⟨g2, 0, none⟩, n2, c2, ho1, 0, told, rfl, x1, fun _ => ⟨rfl, B', d', z2, HZ2.out, HN2.out, x2, x3, (fun x hx => (HC6.out.own.lt x hx).1), (fun x hx => Nat.le_trans HC3.out.bel.size (HFR.out x hx)), by rw [if_neg (fun h => HX.out h.2)], by rw [if_pos ⟨HUD.out, HY.out⟩]⟩⟩
                · have x2 : (ow1 == (kg : Int) + 1) = false := by simpa using hy
                  have HY := Lib.hid hy
                  clear hx hy
                  go_upto_region 14 with (fail)
                  have HK8F := Lib.hid (HC6.out)
                  have HT8F := Lib.hid (HT11.out)
                  go_wp2_with (first | (refine wpList_load_row rfl 47 _ rfl (q9) rfl 47 (MV F fs.length fc gs (some ⟨g2, 0, none⟩) n2 c2 ho1 ow1) (0, 0) _ HK8F.out.h9 Tryd.underlying47 rfl (mv_info _ _ _ _ _ _ _ _ _) ?_) | (refine wpList_store_row rfl 47 _ _ rfl (q + 2) (MV F fs.length fc gs (some ⟨g2, 0, none⟩) n2 c2 ho1 ow1) rfl rfl 47 _ HK8F.out.h3 (mv_info _ _ _ _ _ _ _ _ _) (mv_size _ _ _ _ _ _ _ _ _).symm (mv_one _ _ _ _ _ _ _ _ _) ?_))
                  refine bodyPost_ret (results_cell3 Tryd.results40 _ _ (q + 2) 47 (MV F fs.length fc gs (some ⟨g2, 0, none⟩) n2 c2 ho1 ow1) (0, 0) _ rfl (Blk.setRow HK8F.out.h3 _) Tryd.underlying47 rfl (mv_info _ _ _ _ _ _ _ _ _)) rfl ?_
                  rw [HSE.out]
                  obtain ⟨x1, x2, x3⟩ := ComS.finish HK8F.out HT8F.out (fun b hb => (HBN.out b hb).1) (MV F fs.length fc gs (some ⟨g2, 0, none⟩) n2 c2 ho1 ow1)
                  exact ⟨some ⟨g2, 0, none⟩, n2, c2, ho1, ow1, told, rfl, x1, fun _ => ⟨rfl, B', d', z2, HZ2.out, HN2.out, x2, x3, (fun x hx => (HC6.out.own.lt x hx).1), (fun x hx => Nat.le_trans HC3.out.bel.size (HFR.out x hx)), by rw [if_neg (fun h => HX.out h.2)], by rw [if_neg (fun h => HY.out h.2)]⟩⟩
          · go_wp2_with fail
            obtain ⟨v8, HV8⟩ : ∃ X, Hid (X = (v7.alloc (.cells #[.int .i64 0, .int .i64 0, .int .i64 0, .int .i64 0, .int .i64 0, .int .i64 0, .int .i64 0, .int .i64 0, .int .i64 0, .int .i64 0, .slice none 0 0, .bool false] 56)).drew) := ⟨_, Lib.hid rfl⟩
            obtain ⟨q5, HQ5⟩ : ∃ x, Hid (x = v7.heap.size) := ⟨_, Lib.hid rfl⟩
            have HBA := Lib.hid (show SB27 v7 v8 by rw [HV8.out]; exact ((Below.refl v7.heap.size v7).alloc (Nat.le_refl _) _).drew)
            have HKA := Lib.hid (show Blk v8 q5 56 #[.int .i64 0, .int .i64 0, .int .i64 0, .int .i64 0, .int .i64 0, .int .i64 0, .int .i64 0, .int .i64 0, .int .i64 0, .int .i64 0, .slice none 0 0, .bool false] by rw [HV8.out, HQ5.out]; exact (Blk.new v7 _ _).drew)
            have HL5 := Lib.hid (show v7.heap.size ≤ q5 by rw [HQ5.out]; exact Nat.le_refl _)
            rw [← HV8.out, ← HQ5.out]
            refine ⟨SB27 v7, HBA.out, fun _ h => h, ?_⟩
            (try simp only [Act.put, List.setIfInBounds_toArray, List.set_cons_zero, List.set_cons_succ]); refine tree_one ?_; simp only [pickOps, List.getElem?_toArray]; (repeat (first | go_big_quiet_skip | (go_big_quiet_want; first | (go_big_quiet_op; first | go_big_quiet_on | ((first | with_reducible refine ⟨_, fun _ _ => rfl, ?_⟩); go_big_quiet_on)) | (simp (contextual := true) [go_sem, HN]; with_reducible refine ⟨_, fun _ _ => rfl, ?_⟩; go_big_quiet_on)))); refine wpQuiet_nil ?_
            go_wp2_with (go_at_call 61; refine (HSTP.out _ HBA.out).mono ?_; rintro e v8b ⟨B', d', rfl, hth, hfr, hb⟩)
            have HB8 := Lib.hid (show SB27 v7 v8b from Below.trans HBA.out (hb.mono (Below.size HBA.out)))
            have HK8 := Lib.hid (HKA.out.below hb HKA.out.lt)
            have HT8 := Lib.hid hth
            have HFR := Lib.hid (show ∀ b, ob B' = some b → v7.heap.size ≤ b from fun b hb => Nat.le_trans (Below.size HBA.out) (hfr b hb))
            have HFQ := Lib.hid (show ∀ b, ob B' = some b → b ≠ q5 from fun b hb e => by
              have h1 := hfr b hb
              have h2 := HKA.out.lt
              omega)
            have HZ0 := Lib.hid (show (Tryd.prog.info? 56).map (·.size) = some (thArr u B' d').size by rw [thArr_size B' d' hth.regs]; exact Tryd.infoTh)
            have HZ12 := Lib.hid (show (12 : Nat) = (thArr u B' d').size from (thArr_size B' d' hth.regs).symm)
            clear hth hfr hb
            refine ⟨SB27 v7, HB8.out, fun _ h => h, ?_⟩
            (try simp only [Act.put, List.setIfInBounds_toArray, List.set_cons_zero, List.set_cons_succ]); refine tree_one ?_; simp only [pickOps, List.getElem?_toArray, List.getElem?_cons_zero, List.getElem?_cons_succ]; (repeat (first | go_big_quiet_skip | (go_big_quiet_want; first | (go_big_quiet_op; first | go_big_quiet_on | ((first | with_reducible refine ⟨_, fun _ _ => rfl, ?_⟩); go_big_quiet_on)) | (simp (contextual := true) [go_sem, HN]; with_reducible refine ⟨_, fun _ _ => rfl, ?_⟩; go_big_quiet_on)))); refine wpQuiet_nil ?_
            go_wp2_with (refine wpList_store_row rfl 56 _ _ rfl q5 (thArr u B' d') rfl rfl 56 _ HK8.out HZ0.out HZ12.out (thArr_one u B' d') ?_)
            obtain ⟨v9, HV9⟩ : ∃ X, Hid (X = v8b.setRow q5 (thArr u B' d')) := ⟨_, Lib.hid rfl⟩
            have HB9 := Lib.hid (show SB27 v7 v9 by rw [HV9.out]; exact below_setRow HB8.out HL5.out (Below.size HB8.out) _)
            have HK5 := Lib.hid (show Blk v9 q5 56 (thArr u B' d') by rw [HV9.out]; exact HK8.out.setRow _)
            have HT9 := Lib.hid (show ThOk v9 v9.heap.size u B' d' by
              rw [HV9.out]
              exact thok_mv HT8.out (((Mv.refl [q5] v8b).setRow q5 _ (by simp))) (fun _ b hb => by have := HFQ.out b hb; simpa using this))
            rw [← HV9.out]
            refine ⟨SB27 v7, HB9.out, fun _ h => h, ?_⟩
            (try simp only [Act.put]); refine tree_fin ?_; simp only [pickOps, List.getElem?_toArray, List.getElem?_cons_zero, List.getElem?_cons_succ]; (repeat (first | go_big_quiet_skip | (go_big_quiet_want; first | (go_big_quiet_op; first | go_big_quiet_on | ((first | with_reducible refine ⟨_, fun _ _ => rfl, ?_⟩); go_big_quiet_on)) | (simp (contextual := true) [go_sem, HN]; with_reducible refine ⟨_, fun _ _ => rfl, ?_⟩; go_big_quiet_on)))); refine wpQuiet_nil ?_
            clear HV9 HQ5 HT8 HB8 HZ0 HSTP HVD HK8 HFQ HBA HKA HV8
            have HC4 := Lib.hid (ComS.step HC3.out HB9.out)
            obtain ⟨g2, cur, rfl, hcb, hcs, hown2⟩ := own_thread HC4.out.own HN2.out HZ2.out u B' d' HT9.out.regs
            have HG2 := Lib.hid (show g2 < v7.heap.size from (HC3.out.own.lt g2 rfl).2)
            have hq7 := HC3.out.h3.lt
            have hq97 := HC3.out.h9.lt
            have HBN := Lib.hid (show ∀ b, ob B' = some b → b ≠ q + 2 ∧ b ≠ q9 from fun b hb => by have := HFR.out b hb; omega)
            have hkn2 : kg < n2 := by rw [HN2.out]; exact (List.getElem?_eq_some_iff.1 HZ2.out).1
            have HCB := Lib.hid hcb
            have HCS := Lib.hid hcs
            have HSZU := Lib.hid (show (Tryd.prog.info? 56).map (·.size) = some (thArr u B' d').size by rw [thArr_size B' d' HT9.out.regs]; exact Tryd.infoTh)
            obtain ⟨v10, HV10⟩ : ∃ X, Hid (X = v9.setRow g2 (splice cur (kg * 16) (thArr u B' d'))) := ⟨_, Lib.hid rfl⟩
            rw [← HV10.out] at hown2
            have HM10 := Lib.hid (show Mv (ob (some ⟨g2, 0, none⟩ : Option Addr)).toList v9 v10 by rw [HV10.out]; exact (Mv.refl _ _).setRow g2 _ (by simp [ob]))
            have HC5 := Lib.hid (ComS.row HC4.out HM10.out hown2 (.inl rfl))
            have HK10 := Lib.hid (HM10.out.blk HK5.out (by have h1 := HG2.out; have h2 := HL5.out; intro hc; have h3 : q5 = g2 := (by simpa [ob] using hc); omega))
            have HT10 := Lib.hid (thok_mv HT9.out HM10.out (fun _ b hb => by have h1 := HG2.out; have h2 := HFR.out b hb; intro hc; have h3 : b = g2 := (by simpa [ob] using hc); omega))
            have hk3 : kg < (rs2.set kg ⟨{ z2.x with th := u }, B', d'⟩).length := by rw [List.length_set]; exact (List.getElem?_eq_some_iff.1 HZ2.out).1
            obtain ⟨g3, hge, -, -, hcc, hfz, hset⟩ := own_pg HC5.out.own (by rw [List.length_set]; exact HN2.out) hk3
            obtain rfl : g2 = g3 := by injection hge with hge; injection hge with hge
            rw [List.getElem_set_self] at hcc hset
            have y15 := hcc 15 _ rfl
            have f15 := hfz 15
            obtain ⟨ho11, -⟩ := hset 15 (.bool false) ⟨{ z2.x with th := u, beg := false }, B', d'⟩ (by decide) rfl
            rw [List.set_set] at ho11
            obtain ⟨v11, HV11⟩ : ∃ X, Hid (X = v10.setCell ⟨g2, kg * 16 + 15, none⟩ (.bool false)) := ⟨_, Lib.hid rfl⟩
            rw [← HV11.out] at ho11
            have HM11 := Lib.hid (show Mv (ob (some ⟨g2, 0, none⟩ : Option Addr)).toList v10 v11 by rw [HV11.out]; exact (Mv.refl _ _).set _ _ (by simp [ob]))
            have HC6 := Lib.hid (ComS.row HC5.out HM11.out ho11 (.inl rfl))
            have HK11 := Lib.hid (HM11.out.blk HK10.out (by have h1 := HG2.out; have h2 := HL5.out; intro hc; have h3 : q5 = g2 := (by simpa [ob] using hc); omega))
            have HT11 := Lib.hid (thok_mv HT10.out HM11.out (fun _ b hb => by have h1 := HG2.out; have h2 := HFR.out b hb; intro hc; have h3 : b = g2 := (by simpa [ob] using hc); omega))
            have o29 := (mv_cells HC4.out.h9).2.2.1
            have o210 := (mv_cells HC5.out.h9).2.2.1
            obtain ⟨-, -, -, p3, p4⟩ := mv_cells HC6.out.h9
            have fp3 := HC6.out.h9.frozen 3
            have fp4 := HC6.out.h9.frozen 4
            have p4b := (mv_cells (F := F) (A := some ⟨g2, 0, none⟩) (ComS.field HC6.out 3 (.int .i64 0)).h9).2.2.2.2
            have d11 : v11.cell? ⟨q5, 11, none⟩ = some (.bool u.done) := (HK11.out.cell 11).trans (thArr_11 _ _ HT11.out.regs)
            have d11b : (v11.setCell ⟨q9, 3, none⟩ (.int .i64 0)).cell? ⟨q5, 11, none⟩ = some (.bool u.done) := ((HK11.out.far (p := ⟨q9, 3, none⟩) (by have h2 := HL5.out; show q5 ≠ q9; omega) _).cell 11).trans (thArr_11 _ _ HT11.out.regs)
            have hv10 := HV10.out
            clear hcb hcs hown2 hge hcc hfz hset ho11 hk3 hq7 hq97
            go_upto_region 9 with (first | (refine wpList_load_rowW (by rfl) 56 _ rfl q5 rfl 56 (thArr u B' d') (0, 0) _ HK5.out Tryd.underlying56 rfl HSZU.out ?_) | (refine wpList_store_sub rfl 56 _ _ rfl g2 (kg * 16) (thArr u B' d') rfl rfl 77 _ HCB.out HSZU.out HCS.out (thArr_one u B' d') ?_; rw [← hv10]; clear hv10))
            clear o29
            go_upto_region 10 with (fail)
            rw [← HV11.out]
            clear y15 f15 o210
            cases hud : u.done with
            | false =>
              rw [hud] at d11 d11b
              have HUD := Lib.hid hud
              clear hud
              go_upto_region 14 with (fail)
              have HK8F := Lib.hid (HC6.out)
              have HT8F := Lib.hid (HT11.out)
              go_wp2_with (first | (refine wpList_load_row rfl 47 _ rfl (q9) rfl 47 (MV F fs.length fc gs (some ⟨g2, 0, none⟩) n2 c2 ho1 ow1) (0, 0) _ HK8F.out.h9 Tryd.underlying47 rfl (mv_info _ _ _ _ _ _ _ _ _) ?_) | (refine wpList_store_row rfl 47 _ _ rfl (q + 2) (MV F fs.length fc gs (some ⟨g2, 0, none⟩) n2 c2 ho1 ow1) rfl rfl 47 _ HK8F.out.h3 (mv_info _ _ _ _ _ _ _ _ _) (mv_size _ _ _ _ _ _ _ _ _).symm (mv_one _ _ _ _ _ _ _ _ _) ?_))
              refine bodyPost_ret (results_cell3 Tryd.results40 _ _ (q + 2) 47 (MV F fs.length fc gs (some ⟨g2, 0, none⟩) n2 c2 ho1 ow1) (0, 0) _ rfl (Blk.setRow HK8F.out.h3 _) Tryd.underlying47 rfl (mv_info _ _ _ _ _ _ _ _ _)) rfl ?_
              rw [HSE.out]
              obtain ⟨x1, x2, x3⟩ := ComS.finish HK8F.out HT8F.out (fun b hb => (HBN.out b hb).1) (MV F fs.length fc gs (some ⟨g2, 0, none⟩) n2 c2 ho1 ow1)
              exact ⟨some ⟨g2, 0, none⟩, n2, c2, ho1, ow1, told, rfl, x1, fun _ => ⟨rfl, B', d', z2, HZ2.out, HN2.out, x2, x3, (fun x hx => (HC6.out.own.lt x hx).1), (fun x hx => Nat.le_trans HC3.out.bel.size (HFR.out x hx)), by rw [if_neg (fun h => by rw [HUD.out] at h; cases h.1)], by rw [if_neg (fun h => by rw [HUD.out] at h; cases h.1)]⟩⟩
            | true =>
              rw [hud] at d11 d11b
              have HUD := Lib.hid hud
              clear hud
              by_cases hx : ho1 = (kg : Int) + 1
              · have x1 : (ho1 == (kg : Int) + 1) = true := by simpa using hx
                have HX := Lib.hid hx
                by_cases hy : ow1 = (kg : Int) + 1
                · have x2 : (ow1 == (kg : Int) + 1) = true := by simpa using hy
                  have HY := Lib.hid hy
                  clear hx hy
                  go_upto_region 14 with (fail)
                  have HK8F := Lib.hid ((ComS.field (ComS.field HC6.out 3 (.int .i64 0)) 4 (.int .i64 0)))
                  have HT8F := Lib.hid (thok_cell (thok_cell HT11.out ⟨q9, 3, none⟩ (.int .i64 0) (fun b hb => (HBN.out b hb).2)) ⟨q9, 4, none⟩ (.int .i64 0) (fun b hb => (HBN.out b hb).2))
                  go_wp2_with (first | (refine wpList_load_row rfl 47 _ rfl (q9) rfl 47 (MV F fs.length fc gs (some ⟨g2, 0, none⟩) n2 c2 0 0) (0, 0) _ HK8F.out.h9 Tryd.underlying47 rfl (mv_info _ _ _ _ _ _ _ _ _) ?_) | (refine wpList_store_row rfl 47 _ _ rfl (q + 2) (MV F fs.length fc gs (some ⟨g2, 0, none⟩) n2 c2 0 0) rfl rfl 47 _ HK8F.out.h3 (mv_info _ _ _ _ _ _ _ _ _) (mv_size _ _ _ _ _ _ _ _ _).symm (mv_one _ _ _ _ _ _ _ _ _) ?_))
                  refine bodyPost_ret (results_cell3 Tryd.results40 _ _ (q + 2) 47 (MV F fs.length fc gs (some ⟨g2, 0, none⟩) n2 c2 0 0) (0, 0) _ rfl (Blk.setRow HK8F.out.h3 _) Tryd.underlying47 rfl (mv_info _ _ _ _ _ _ _ _ _)) rfl ?_
                  rw [HSE.out]
                  obtain ⟨x1, x2, x3⟩ := ComS.finish HK8F.out HT8F.out (fun b hb => (HBN.out b hb).1) (MV F fs.length fc gs (some ⟨g2, 0, none⟩) n2 c2 0 0)
                  exact ⟨some ⟨g2, 0, none⟩, n2, c2, 0, 0, told, rfl, x1, fun _ => ⟨rfl, B', d', z2, HZ2.out, HN2.out, x2, x3, (fun x hx => (HC6.out.own.lt x hx).1), (fun x hx => Nat.le_trans HC3.out.bel.size (HFR.out x hx)), by rw [if_pos ⟨HUD.out, HX.out⟩], by rw [if_pos ⟨HUD.out, HY.out⟩]⟩⟩
                · have x2 : (ow1 == (kg : Int) + 1) = false := by simpa using hy
                  have HY := Lib.hid hy
                  clear hx hy
                  go_upto_region 14 with (fail)
                  have HK8F := Lib.hid ((ComS.field HC6.out 3 (.int .i64 0)))
                  have HT8F := Lib.hid (thok_cell HT11.out ⟨q9, 3, none⟩ (.int .i64 0) (fun b hb => (HBN.out b hb).2))
                  go_wp2_with (first | (refine wpList_load_row rfl 47 _ rfl (q9) rfl 47 (MV F fs.length fc gs (some ⟨g2, 0, none⟩) n2 c2 0 ow1) (0, 0) _ HK8F.out.h9 Tryd.underlying47 rfl (mv_info _ _ _ _ _ _ _ _ _) ?_) | (refine wpList_store_row rfl 47 _ _ rfl (q + 2) (MV F fs.length fc gs (some ⟨g2, 0, none⟩) n2 c2 0 ow1) rfl rfl 47 _ HK8F.out.h3 (mv_info _ _ _ _ _ _ _ _ _) (mv_size _ _ _ _ _ _ _ _ _).symm (mv_one _ _ _ _ _ _ _ _ _) ?_))
                  refine bodyPost_ret (results_cell3 Tryd.results40 _ _ (q + 2) 47 (MV F fs.length fc gs (some ⟨g2, 0, none⟩) n2 c2 0 ow1) (0, 0) _ rfl (Blk.setRow HK8F.out.h3 _) Tryd.underlying47 rfl (mv_info _ _ _ _ _ _ _ _ _)) rfl ?_
                  rw [HSE.out]
                  obtain ⟨x1, x2, x3⟩ := ComS.finish HK8F.out HT8F.out (fun b hb => (HBN.out b hb).1) (MV F fs.length fc gs (some ⟨g2, 0, none⟩) n2 c2 0 ow1)
                  exact ⟨some ⟨g2, 0, none⟩, n2, c2, 0, ow1, told, rfl, x1, fun _ => ⟨rfl, B', d', z2, HZ2.out, HN2.out, x2, x3, (fun x hx => (HC6.out.own.lt x hx).1), (fun x hx => Nat.le_trans HC3.out.bel.size (HFR.out x hx)), by rw [if_pos ⟨HUD.out, HX.out⟩], by rw [if_neg (fun h => HY.out h.2)]⟩⟩
              · have x1 : (ho1 == (kg : Int) + 1) = false := by simpa using hx
                have HX := Lib.hid hx
                by_cases hy : ow1 = (kg : Int) + 1
                · have x2 : (ow1 == (kg : Int) + 1) = true := by simpa using hy
                  have HY := Lib.hid hy
                  clear hx hy
                  go_upto_region 14 with (fail)
                  have HK8F := Lib.hid ((ComS.field HC6.out 4 (.int .i64 0)))
                  have HT8F := Lib.hid (thok_cell HT11.out ⟨q9, 4, none⟩ (.int .i64 0) (fun b hb => (HBN.out b hb).2))
                  go_wp2_with (first | (refine wpList_load_row rfl 47 _ rfl (q9) rfl 47 (MV F fs.length fc gs (some ⟨g2, 0, none⟩) n2 c2 ho1 0) (0, 0) _ HK8F.out.h9 Tryd.underlying47 rfl (mv_info _ _ _ _ _ _ _ _ _) ?_) | (refine wpList_store_row rfl 47 _ _ rfl (q + 2) (MV F fs.length fc gs (some ⟨g2, 0, none⟩) n2 c2 ho1 0) rfl rfl 47 _ HK8F.out.h3 (mv_info _ _ _ _ _ _ _ _ _) (mv_size _ _ _ _ _ _ _ _ _).symm (mv_one _ _ _ _ _ _ _ _ _) ?_))
                  refine bodyPost_ret (results_cell3 Tryd.results40 _ _ (q + 2) 47 (MV F fs.length fc gs (some ⟨g2, 0, none⟩) n2 c2 ho1 0) (0, 0) _ rfl (Blk.setRow HK8F.out.h3 _) Tryd.underlying47 rfl (mv_info _ _ _ _ _ _ _ _ _)) rfl ?_
                  rw [HSE.out]
                  obtain ⟨x1, x2, x3⟩ := ComS.finish HK8F.out HT8F.out (fun b hb => (HBN.out b hb).1) (MV F fs.length fc gs (some ⟨g2, 0, none⟩) n2 c2 ho1 0)
                  exact ⟨some ⟨g2, 0, none⟩, n2, c2, ho1, 0, told, rfl, x1, fun _ => ⟨rfl, B', d', z2, HZ2.out, HN2.out, x2, x3, (fun x hx => (HC6.out.own.lt x hx).1), (fun x hx => Nat.le_trans HC3.out.bel.size (HFR.out x hx)), by rw [if_neg (fun h => HX.out h.2)], by rw [if_pos ⟨HUD.out, HY.out⟩]⟩⟩
                · have x2 : (ow1 == (kg : Int) + 1) = false := by simpa using hy
                  have HY := Lib.hid hy
                  clear hx hy
                  go_upto_region 14 with (fail)
                  have HK8F := Lib.hid (HC6.out)
                  have HT8F := Lib.hid (HT11.out)
                  go_wp2_with (first | (refine wpList_load_row rfl 47 _ rfl (q9) rfl 47 (MV F fs.length fc gs (some ⟨g2, 0, none⟩) n2 c2 ho1 ow1) (0, 0) _ HK8F.out.h9 Tryd.underlying47 rfl (mv_info _ _ _ _ _ _ _ _ _) ?_) | (refine wpList_store_row rfl 47 _ _ rfl (q + 2) (MV F fs.length fc gs (some ⟨g2, 0, none⟩) n2 c2 ho1 ow1) rfl rfl 47 _ HK8F.out.h3 (mv_info _ _ _ _ _ _ _ _ _) (mv_size _ _ _ _ _ _ _ _ _).symm (mv_one _ _ _ _ _ _ _ _ _) ?_))
                  refine bodyPost_ret (results_cell3 Tryd.results40 _ _ (q + 2) 47 (MV F fs.length fc gs (some ⟨g2, 0, none⟩) n2 c2 ho1 ow1) (0, 0) _ rfl (Blk.setRow HK8F.out.h3 _) Tryd.underlying47 rfl (mv_info _ _ _ _ _ _ _ _ _)) rfl ?_
                  rw [HSE.out]
                  obtain ⟨x1, x2, x3⟩ := ComS.finish HK8F.out HT8F.out (fun b hb => (HBN.out b hb).1) (MV F fs.length fc gs (some ⟨g2, 0, none⟩) n2 c2 ho1 ow1)
                  exact ⟨some ⟨g2, 0, none⟩, n2, c2, ho1, ow1, told, rfl, x1, fun _ => ⟨rfl, B', d', z2, HZ2.out, HN2.out, x2, x3, (fun x hx => (HC6.out.own.lt x hx).1), (fun x hx => Nat.le_trans HC3.out.bel.size (HFR.out x hx)), by rw [if_neg (fun h => HX.out h.2)], by rw [if_neg (fun h => HY.out h.2)]⟩⟩
    · go_wp2_with fail
      have HK0 := Lib.hid (Raw.late HR1.out #[.slice none 0 0, .int .i64 0, .slice none 0 0, .int .i64 0, .int .i64 0])
      obtain ⟨v3, HV3⟩ : ∃ V, Hid (V = v1.alloc (.cells #[.slice none 0 0, .int .i64 0, .slice none 0 0, .int .i64 0, .int .i64 0] 47)) := ⟨_, Lib.hid rfl⟩
      obtain ⟨q9, HQ9⟩ : ∃ x, Hid (x = v1.heap.size) := ⟨_, Lib.hid rfl⟩
      rw [← HV3.out, ← HQ9.out] at HK0 ⊢
      refine ⟨SA q (MV F fs.length fc gs (some ⟨g, off, none⟩) n c ho ow) (q + 1) (insArr i), ⟨HK0.out.h1, HK0.out.h2⟩, fun _ h => h, ?_⟩
      (try simp only [Act.put, List.setIfInBounds_toArray, List.set_cons_zero, List.set_cons_succ]); refine tree_one ?_; simp only [pickOps, List.getElem?_toArray, List.getElem?_cons_zero, List.getElem?_cons_succ]; (repeat (first | go_big_quiet_skip | (go_big_quiet_want; first | (go_big_quiet_op; first | go_big_quiet_on | ((first | with_reducible refine ⟨_, fun _ _ => rfl, ?_⟩); go_big_quiet_on)) | (simp (contextual := true) [go_sem, HN]; with_reducible refine ⟨_, fun _ _ => rfl, ?_⟩; go_big_quiet_on)))); refine wpQuiet_nil ?_
      go_wp2_with (go_at_call 59; refine (HWD.out _ _ _ HK0.out.own).mono ?_; rintro e v2 ⟨rfl, ho2', hm2'⟩)
      have HK2 := Lib.hid (ComS.row HK0.out hm2' ho2' (.inl rfl))
      clear ho2' hm2'
      refine ⟨SA q (MV F fs.length fc gs (some ⟨g, off, none⟩) n c ho ow) (q + 1) (insArr i), ⟨HK2.out.h1, HK2.out.h2⟩, fun _ h => h, ?_⟩
      (try simp only [Act.put, List.setIfInBounds_toArray, List.set_cons_zero, List.set_cons_succ]); refine tree_one ?_; simp only [pickOps, List.getElem?_toArray, List.getElem?_cons_zero, List.getElem?_cons_succ]; (repeat (first | go_big_quiet_skip | (go_big_quiet_want; first | (go_big_quiet_op; first | go_big_quiet_on | ((first | with_reducible refine ⟨_, fun _ _ => rfl, ?_⟩); go_big_quiet_on)) | (simp (contextual := true) [go_sem, HN]; with_reducible refine ⟨_, fun _ _ => rfl, ?_⟩; go_big_quiet_on)))); refine wpQuiet_nil ?_
      go_wp2_with (refine wpList_store_row rfl 47 _ _ rfl (q9) (MV F fs.length fc gs A1 n c1 ho1 ow1) rfl rfl 47 _ HK2.out.h9 (mv_info _ _ _ _ _ _ _ _ _) (mv_size _ _ _ _ _ _ _ _ _).symm (mv_one _ _ _ _ _ _ _ _ _) ?_)
      have HC := Lib.hid (ComS.box HK2.out (MV F fs.length fc gs A1 n c1 ho1 ow1))
      obtain ⟨v5, HV5⟩ : ∃ V, Hid (V = v2.setRow q9 (MV F fs.length fc gs A1 n c1 ho1 ow1)) := ⟨_, Lib.hid rfl⟩
      rw [← HV5.out] at HC ⊢
      refine ⟨SA q (MV F fs.length fc gs (some ⟨g, off, none⟩) n c ho ow) (q + 1) (insArr i), ⟨HC.out.h1, HC.out.h2⟩, fun _ h => h, ?_⟩
      (try simp only [Act.put]); refine tree_fin ?_; simp only [pickOps, List.getElem?_toArray, List.getElem?_cons_zero, List.getElem?_cons_succ]; (repeat (first | go_big_quiet_skip | (go_big_quiet_want; first | (go_big_quiet_op; first | go_big_quiet_on | ((first | with_reducible refine ⟨_, fun _ _ => rfl, ?_⟩); go_big_quiet_on)) | (simp (contextual := true) [go_sem, HN]; with_reducible refine ⟨_, fun _ _ => rfl, ?_⟩; go_big_quiet_on)))); refine wpQuiet_nil ?_
      cases b1 with
      | false =>
        go_upto_region 3 with (fail)
        go_wp2_with (first | (refine wpList_load_row rfl 47 _ rfl (q) rfl 47 (MV F fs.length fc gs (some ⟨g, off, none⟩) n c ho ow) (0, 0) _ HC.out.h1 Tryd.underlying47 rfl (mv_info _ _ _ _ _ _ _ _ _) ?_) | (refine wpList_store_row rfl 47 _ _ rfl (q + 2) (MV F fs.length fc gs (some ⟨g, off, none⟩) n c ho ow) rfl rfl 47 _ HC.out.h3 (mv_info _ _ _ _ _ _ _ _ _) (mv_size _ _ _ _ _ _ _ _ _).symm (mv_one _ _ _ _ _ _ _ _ _) ?_))
        refine bodyPost_ret (results_cell3 Tryd.results40 _ _ (q + 2) 47 (MV F fs.length fc gs (some ⟨g, off, none⟩) n c ho ow) (0, 0) _ rfl (Blk.setRow HC.out.h3 _) Tryd.underlying47 rfl (mv_info _ _ _ _ _ _ _ _ _)) rfl ?_
        exact ⟨_, _, _, _, _, 0, rfl, below_setRow HC.out.bel (by have := HC.out.lo.1; omega) HC.out.bel.size _, fun h => by cases h⟩
      | true =>
        go_upto_region 4 with (fail)
        have j0 : v5.cell? ⟨q + 1, 0, none⟩ = some (.int .i64 i.op) := (HC.out.h2.cell 0).trans rfl
        have j1 : v5.cell? ⟨q + 1, 1, none⟩ = some (.int .i64 i.a) := (HC.out.h2.cell 1).trans rfl
        have j2 : v5.cell? ⟨q + 1, 2, none⟩ = some (.int .i64 i.b) := (HC.out.h2.cell 2).trans rfl
        have j3 : v5.cell? ⟨q + 1, 3, none⟩ = some (.int .i64 i.c) := (HC.out.h2.cell 3).trans rfl
        have j4 : v5.cell? ⟨q + 1, 4, none⟩ = some (.int .i64 i.n) := (HC.out.h2.cell 4).trans rfl
        have HAS := Lib.hid (asks_any27 (F := F) (nf := fs.length) (fc := fc) (gs := gs) (ho := ho1) (ow := ow1) HC.out.own HZ1.out.2.2 HC.out.bel.size hn100 HGS.out kg z1 HZ1.out.1 i a HIA.out.1 HIA.out.2)
        rw [HZ1.out.2.1, HAR.out] at HAS
        unfold insArr at HAS
        go_wp2_with (refine wpList_load_row rfl 47 _ rfl (q9) rfl 47 (MV F fs.length fc gs A1 n c1 ho1 ow1) (0, 0) _ HC.out.h9 Tryd.underlying47 rfl (mv_info _ _ _ _ _ _ _ _ _) ?_)
        refine HAS.out.mono ?_
        rintro e v6 ⟨A2, n2, c2, rfl, hn2, ho2', hm2', ha2'⟩
        have HC2 := Lib.hid (ComS.row HC.out hm2' ho2' ha2')
        have HN2 := Lib.hid hn2
        clear hn2 ho2' hm2' ha2' j0 j1 j2 j3 j4 HAS
        go_upto_region 5 with (refine wpList_store_row rfl 47 _ _ rfl (q9) (MV F fs.length fc gs A2 n2 c2 ho1 ow1) rfl rfl 47 _ HC2.out.h9 (mv_info _ _ _ _ _ _ _ _ _) (mv_size _ _ _ _ _ _ _ _ _).symm (mv_one _ _ _ _ _ _ _ _ _) ?_)
        obtain ⟨v7, HV7⟩ : ∃ V, Hid (V = v6.setRow q9 (MV F fs.length fc gs A2 n2 c2 ho1 ow1)) := ⟨_, Lib.hid rfl⟩
        have HC3 := Lib.hid (ComS.box HC2.out (MV F fs.length fc gs A2 n2 c2 ho1 ow1))
        rw [← HV7.out] at HC3 ⊢
        cases b2 with
        | false =>
          go_upto_region 6 with (fail)
          go_wp2_with (first | (refine wpList_load_row rfl 47 _ rfl (q) rfl 47 (MV F fs.length fc gs (some ⟨g, off, none⟩) n c ho ow) (0, 0) _ HC3.out.h1 Tryd.underlying47 rfl (mv_info _ _ _ _ _ _ _ _ _) ?_) | (refine wpList_store_row rfl 47 _ _ rfl (q + 2) (MV F fs.length fc gs (some ⟨g, off, none⟩) n c ho ow) rfl rfl 47 _ HC3.out.h3 (mv_info _ _ _ _ _ _ _ _ _) (mv_size _ _ _ _ _ _ _ _ _).symm (mv_one _ _ _ _ _ _ _ _ _) ?_))
          refine bodyPost_ret (results_cell3 Tryd.results40 _ _ (q + 2) 47 (MV F fs.length fc gs (some ⟨g, off, none⟩) n c ho ow) (0, 0) _ rfl (Blk.setRow HC3.out.h3 _) Tryd.underlying47 rfl (mv_info _ _ _ _ _ _ _ _ _)) rfl ?_
          exact ⟨_, _, _, _, _, 0, rfl, below_setRow HC3.out.bel (by have := HC3.out.lo.1; omega) HC3.out.bel.size _, fun h => by cases h⟩
        | true =>
          go_upto_region 7 with (fail)
          have PL : ∀ w', SB27 v7 w' → (loadVar 24 ⟨q, 0, none⟩).run Tryd.prog w' = .ok (.agg #[.slice F fs.length fc]) w' := fun w' h => run_loadVar_cells w' q 0 _ _ _ (fun j v hv => by
            have hj : j = 0 := by
              have := (Array.getElem?_eq_some_iff.1 hv).1
              simp at this
              omega
            subst hj
            rw [← hv]
            exact (Blk.cell (HC3.out.h1.below h HC3.out.h1.lt) 0).trans rfl) Tryd.underlying24 rfl (Tryd.infoPr1 _)
          have C2 : ∀ w', SB27 v7 w' → w'.cell? ⟨q, 2, none⟩ = some (.slice (some ⟨g, off, none⟩) n c) := fun w' h => (Blk.cell (HC3.out.h1.below h HC3.out.h1.lt) 2).trans rfl
          have LT : ∀ w', SB27 v7 w' → (loadVar 56 ⟨g, off + kg * 16, none⟩).run Tryd.prog w' = .ok (.agg (thArr z.x.th z.B z.d)) w' := fun w' h => run_loadVar_cells w' g (off + kg * 16) _ _ _ (fun j v hv => by
            have hj : j < 12 := by
              have := (Array.getElem?_eq_some_iff.1 hv).1
              rw [thArr_size z.B z.d HTZ.out.1.regs] at this
              exact this
            exact HGC.out w' (HC3.out.bel.trans (Below.mono h HC3.out.bel.size)) j v ((pg_th z HTZ.out.1.regs j hj).trans hv)) Tryd.underlying56 rfl (by rw [thArr_size z.B z.d HTZ.out.1.regs]; exact Tryd.infoTh)
          have HSTP := Lib.hid (fun (V : World) (hV : Below v7.heap.size v7 V) => rStep_run z.x.th F z.B fc z.d fs ans V HPR.out.2 (HPR.out.1.step (HC3.out.bel.trans (hV.mono HC3.out.bel.size))) (HTZ.out.1.step (HC3.out.bel.trans (hV.mono HC3.out.bel.size))) HTZ.out.2 HDN.out)
          obtain ⟨u, told, bo, HSE⟩ : ∃ u told bo, Hid (stepT fs z.x.th ans = (u, told, bo)) := ⟨_, _, _, Lib.hid rfl⟩
          rw [HSE.out] at HSTP
          have HVD := Lib.hid (show SB27 v7 v7.drew from (Below.refl _ v7).drew)
          refine region_tree (SB27 v7) (.two [0, 1, 2, 3, 4, 5, 6, 7, 8, 9] 10 (.one [11, 12, 13, 14] 15 (.one [] 16 (.fin [17, 18]))) 15 (.one [] 10 (.one [11, 12, 13, 14] 16 (.fin [17, 18])))) (by kernel_rfl) (by kernel_rfl) (by kernel_rfl) (fun _ _ d _ _ h => by cases d <;> exact h) HVD.out ?_
          (try simp only [Act.put]); refine tree_two ?_; simp only [pickOps, List.getElem?_toArray, List.getElem?_cons_zero, List.getElem?_cons_succ]; (repeat (first | (refine quiet_load_at (by rfl) 24 _ rfl ⟨q, 0, none⟩ rfl #[.slice F fs.length fc] PL ?_; simp only [Act.put, List.setIfInBounds_toArray, List.set_cons_zero, List.set_cons_succ]) | (refine quiet_load_at (by rfl) 56 _ rfl ⟨g, off + kg * 16, none⟩ rfl (thArr z.x.th z.B z.d) LT ?_; simp only [Act.put, List.setIfInBounds_toArray, List.set_cons_zero, List.set_cons_succ]) | go_big_quiet_skip | (go_big_quiet_want; first | (go_big_quiet_op; first | go_big_quiet_on | ((first | with_reducible refine ⟨_, fun _ _ => rfl, ?_⟩); go_big_quiet_on)) | (simp (contextual := true) [go_sem, C2]; with_reducible refine ⟨_, fun _ _ => rfl, ?_⟩; go_big_quiet_on)))); refine wpQuiet_nil ?_
          clear PL C2 LT
          refine ⟨?_, ?_⟩
          · go_wp2_with (go_at_call 61; refine (HSTP.out _ HVD.out).mono ?_; rintro e v8 ⟨B', d', rfl, hth, hfr, hb⟩)
            have HB8 := Lib.hid (show SB27 v7 v8 from Below.trans HVD.out (hb.mono (Below.size HVD.out)))
            have HT8 := Lib.hid hth
            have HFR := Lib.hid (show ∀ b, ob B' = some b → v7.heap.size ≤ b from hfr)
            have HZ0 := Lib.hid (show (Tryd.prog.info? 56).map (·.size) = some (thArr u B' d').size by rw [thArr_size B' d' hth.regs]; exact Tryd.infoTh)
            have HZ12 := Lib.hid (show (12 : Nat) = (thArr u B' d').size from (thArr_size B' d' hth.regs).symm)
            clear hth hfr hb
            refine ⟨SB27 v7, HB8.out, fun _ h => h, ?_⟩
            (try simp only [Act.put, List.setIfInBounds_toArray, List.set_cons_zero, List.set_cons_succ]); refine tree_one ?_; simp only [pickOps, List.getElem?_toArray, List.getElem?_cons_zero, List.getElem?_cons_succ]; (repeat (first | go_big_quiet_skip | (go_big_quiet_want; first | (go_big_quiet_op; first | go_big_quiet_on | ((first | with_reducible refine ⟨_, fun _ _ => rfl, ?_⟩); go_big_quiet_on)) | (simp (contextual := true) [go_sem, HN]; with_reducible refine ⟨_, fun _ _ => rfl, ?_⟩; go_big_quiet_on)))); refine wpQuiet_nil ?_
            go_wp2_with fail
            refine ⟨SB27 v7, Below.alloc HB8.out (Below.size HB8.out) _, fun _ h => h, ?_⟩
            (try simp only [Act.put]); refine tree_one ?_; simp only [pickOps, List.getElem?_toArray, List.getElem?_cons_zero, List.getElem?_cons_succ]; (repeat (first | go_big_quiet_skip | (go_big_quiet_want; first | (go_big_quiet_op; first | go_big_quiet_on | ((first | with_reducible refine ⟨_, fun _ _ => rfl, ?_⟩); go_big_quiet_on)) | (simp (contextual := true) [go_sem, HN]; with_reducible refine ⟨_, fun _ _ => rfl, ?_⟩; go_big_quiet_on)))); refine wpQuiet_nil ?_
            go_wp2_with (refine wpList_store_row rfl 56 _ _ rfl v8.heap.size (thArr u B' d') rfl rfl 56 _ (Blk.new v8 _ _) HZ0.out HZ12.out (thArr_one u B' d') ?_)
            obtain ⟨v9, HV9⟩ : ∃ X, Hid (X = (v8.alloc (.cells #[.int .i64 0, .int .i64 0, .int .i64 0, .int .i64 0, .int .i64 0, .int .i64 0, .int .i64 0, .int .i64 0, .int .i64 0, .int .i64 0, .slice none 0 0, .bool false] 56)).setRow v8.heap.size (thArr u B' d')) := ⟨_, Lib.hid rfl⟩
            obtain ⟨q5, HQ5⟩ : ∃ x, Hid (x = v8.heap.size) := ⟨_, Lib.hid rfl⟩
            have HB9 := Lib.hid (show SB27 v7 v9 by rw [HV9.out]; exact below_setRow (Below.alloc HB8.out (Below.size HB8.out) _) (Below.size HB8.out) (Below.size (Below.alloc HB8.out (Below.size HB8.out) _)) _)
            have HK5 := Lib.hid (show Blk v9 q5 56 (thArr u B' d') by rw [HV9.out, HQ5.out]; exact (Blk.new v8 _ _).setRow _)
            have HL5 := Lib.hid (show v7.heap.size ≤ q5 by rw [HQ5.out]; exact Below.size HB8.out)
            have HT9 := Lib.hid (show ThOk v9 v9.heap.size u B' d' by
              have hb := below_setRow ((Below.refl v8.heap.size v8).alloc (Nat.le_refl _) (.cells #[.int .i64 0, .int .i64 0, .int .i64 0, .int .i64 0, .int .i64 0, .int .i64 0, .int .i64 0, .int .i64 0, .int .i64 0, .int .i64 0, .slice none 0 0, .bool false] 56)) (Nat.le_refl _) (by rw [World.size_alloc]; omega) (thArr u B' d')
              rw [HV9.out]
              exact HT8.out.step hb)
            rw [← HV9.out, ← HQ5.out]
            refine ⟨SB27 v7, HB9.out, fun _ h => h, ?_⟩
            (try simp only [Act.put]); refine tree_fin ?_; simp only [pickOps, List.getElem?_toArray, List.getElem?_cons_zero, List.getElem?_cons_succ]; (repeat (first | go_big_quiet_skip | (go_big_quiet_want; first | (go_big_quiet_op; first | go_big_quiet_on | ((first | with_reducible refine ⟨_, fun _ _ => rfl, ?_⟩); go_big_quiet_on)) | (simp (contextual := true) [go_sem, HN]; with_reducible refine ⟨_, fun _ _ => rfl, ?_⟩; go_big_quiet_on)))); refine wpQuiet_nil ?_
            clear HV9 HQ5 HT8 HB8 HZ0 HSTP HVD
            have HC4 := Lib.hid (ComS.step HC3.out HB9.out)
            obtain ⟨g2, cur, rfl, hcb, hcs, hown2⟩ := own_thread HC4.out.own HN2.out HZ2.out u B' d' HT9.out.regs
            have HG2 := Lib.hid (show g2 < v7.heap.size from (HC3.out.own.lt g2 rfl).2)
            have hq7 := HC3.out.h3.lt
            have hq97 := HC3.out.h9.lt
            have HBN := Lib.hid (show ∀ b, ob B' = some b → b ≠ q + 2 ∧ b ≠ q9 from fun b hb => by have := HFR.out b hb; omega)
            have hkn2 : kg < n2 := by rw [HN2.out]; exact (List.getElem?_eq_some_iff.1 HZ2.out).1
            have HCB := Lib.hid hcb
            have HCS := Lib.hid hcs
            have HSZU := Lib.hid (show (Tryd.prog.info? 56).map (·.size) = some (thArr u B' d').size by rw [thArr_size B' d' HT9.out.regs]; exact Tryd.infoTh)
            obtain ⟨v10, HV10⟩ : ∃ X, Hid (X = v9.setRow g2 (splice cur (kg * 16) (thArr u B' d'))) := ⟨_, Lib.hid rfl⟩
            rw [← HV10.out] at hown2
            have HM10 := Lib.hid (show Mv (ob (some ⟨g2, 0, none⟩ : Option Addr)).toList v9 v10 by rw [HV10.out]; exact (Mv.refl _ _).setRow g2 _ (by simp [ob]))
            have HC5 := Lib.hid (ComS.row HC4.out HM10.out hown2 (.inl rfl))
            have HK10 := Lib.hid (HM10.out.blk HK5.out (by have h1 := HG2.out; have h2 := HL5.out; intro hc; have h3 : q5 = g2 := (by simpa [ob] using hc); omega))
            have HT10 := Lib.hid (thok_mv HT9.out HM10.out (fun _ b hb => by have h1 := HG2.out; have h2 := HFR.out b hb; intro hc; have h3 : b = g2 := (by simpa [ob] using hc); omega))
            have hk3 : kg < (rs2.set kg ⟨{ z2.x with th := u }, B', d'⟩).length := by rw [List.length_set]; exact (List.getElem?_eq_some_iff.1 HZ2.out).1
            obtain ⟨g3, hge, -, -, hcc, hfz, hset⟩ := own_pg HC5.out.own (by rw [List.length_set]; exact HN2.out) hk3
            obtain rfl : g2 = g3 := by injection hge with hge; injection hge with hge
            rw [List.getElem_set_self] at hcc hset
            have y15 := hcc 15 _ rfl
            have f15 := hfz 15
            obtain ⟨ho11, -⟩ := hset 15 (.bool false) ⟨{ z2.x with th := u, beg := false }, B', d'⟩ (by decide) rfl
            rw [List.set_set] at ho11
            obtain ⟨v11, HV11⟩ : ∃ X, Hid (X = v10.setCell ⟨g2, kg * 16 + 15, none⟩ (.bool false)) := ⟨_, Lib.hid rfl⟩
            rw [← HV11.out] at ho11
            have HM11 := Lib.hid (show Mv (ob (some ⟨g2, 0, none⟩ : Option Addr)).toList v10 v11 by rw [HV11.out]; exact (Mv.refl _ _).set _ _ (by simp [ob]))
            have HC6 := Lib.hid (ComS.row HC5.out HM11.out ho11 (.inl rfl))
            have HK11 := Lib.hid (HM11.out.blk HK10.out (by have h1 := HG2.out; have h2 := HL5.out; intro hc; have h3 : q5 = g2 := (by simpa [ob] using hc); omega))
            have HT11 := Lib.hid (thok_mv HT10.out HM11.out (fun _ b hb => by have h1 := HG2.out; have h2 := HFR.out b hb; intro hc; have h3 : b = g2 := (by simpa [ob] using hc); omega))
            have o29 := (mv_cells HC4.out.h9).2.2.1
            have o210 := (mv_cells HC5.out.h9).2.2.1
            obtain ⟨-, -, -, p3, p4⟩ := mv_cells HC6.out.h9
            have fp3 := HC6.out.h9.frozen 3
            have fp4 := HC6.out.h9.frozen 4
            have p4b := (mv_cells (F := F) (A := some ⟨g2, 0, none⟩) (ComS.field HC6.out 3 (.int .i64 0)).h9).2.2.2.2
            have d11 : v11.cell? ⟨q5, 11, none⟩ = some (.bool u.done) := (HK11.out.cell 11).trans (thArr_11 _ _ HT11.out.regs)
            have d11b : (v11.setCell ⟨q9, 3, none⟩ (.int .i64 0)).cell? ⟨q5, 11, none⟩ = some (.bool u.done) := ((HK11.out.far (p := ⟨q9, 3, none⟩) (by have h2 := HL5.out; show q5 ≠ q9; omega) _).cell 11).trans (thArr_11 _ _ HT11.out.regs)
            have hv10 := HV10.out
            clear hcb hcs hown2 hge hcc hfz hset ho11 hk3 hq7 hq97
            go_upto_region 9 with (first | (refine wpList_load_rowW (by rfl) 56 _ rfl q5 rfl 56 (thArr u B' d') (0, 0) _ HK5.out Tryd.underlying56 rfl HSZU.out ?_) | (refine wpList_store_sub rfl 56 _ _ rfl g2 (kg * 16) (thArr u B' d') rfl rfl 77 _ HCB.out HSZU.out HCS.out (thArr_one u B' d') ?_; rw [← hv10]; clear hv10))
            clear o29
            go_upto_region 10 with (fail)
            rw [← HV11.out]
            clear y15 f15 o210
            cases hud : u.done with
            | false =>
              rw [hud] at d11 d11b
              have HUD := Lib.hid hud
              clear hud
              go_upto_region 14 with (fail)
              have HK8F := Lib.hid (HC6.out)
              have HT8F := Lib.hid (HT11.out)
              go_wp2_with (first | (refine wpList_load_row rfl 47 _ rfl (q9) rfl 47 (MV F fs.length fc gs (some ⟨g2, 0, none⟩) n2 c2 ho1 ow1) (0, 0) _ HK8F.out.h9 Tryd.underlying47 rfl (mv_info _ _ _ _ _ _ _ _ _) ?_) | (refine wpList_store_row rfl 47 _ _ rfl (q + 2) (MV F fs.length fc gs (some ⟨g2, 0, none⟩) n2 c2 ho1 ow1) rfl rfl 47 _ HK8F.out.h3 (mv_info _ _ _ _ _ _ _ _ _) (mv_size _ _ _ _ _ _ _ _ _).symm (mv_one _ _ _ _ _ _ _ _ _) ?_))
              refine bodyPost_ret (results_cell3 Tryd.results40 _ _ (q + 2) 47 (MV F fs.length fc gs (some ⟨g2, 0, none⟩) n2 c2 ho1 ow1) (0, 0) _ rfl (Blk.setRow HK8F.out.h3 _) Tryd.underlying47 rfl (mv_info _ _ _ _ _ _ _ _ _)) rfl ?_
              rw [HSE.out]
              obtain ⟨x1, x2, x3⟩ := ComS.finish HK8F.out HT8F.out (fun b hb => (HBN.out b hb).1) (MV F fs.length fc gs (some ⟨g2, 0, none⟩) n2 c2 ho1 ow1)
              exact ⟨some ⟨g2, 0, none⟩, n2, c2, ho1, ow1, told, rfl, x1, fun _ => ⟨rfl, B', d', z2, HZ2.out, HN2.out, x2, x3, (fun x hx => (HC6.out.own.lt x hx).1), (fun x hx => Nat.le_trans HC3.out.bel.size (HFR.out x hx)), by rw [if_neg (fun h => by rw [HUD.out] at h; cases h.1)], by rw [if_neg (fun h => by rw [HUD.out] at h; cases h.1)]⟩⟩
            | true =>
              rw [hud] at d11 d11b
              have HUD := Lib.hid hud
              clear hud
              by_cases hx : ho1 = (kg : Int) + 1
              · have x1 : (ho1 == (kg : Int) + 1) = true := by simpa using hx
                have HX := Lib.hid hx
                by_cases hy : ow1 = (kg : Int) + 1
                · have x2 : (ow1 == (kg : Int) + 1) = true := by simpa using hy
                  have HY := Lib.hid hy
                  clear hx hy
                  go_upto_region 14 with (fail)
                  have HK8F := Lib.hid ((ComS.field (ComS.field HC6.out 3 (.int .i64 0)) 4 (.int .i64 0)))
                  have HT8F := Lib.hid (thok_cell (thok_cell HT11.out ⟨q9, 3, none⟩ (.int .i64 0) (fun b hb => (HBN.out b hb).2)) ⟨q9, 4, none⟩ (.int .i64 0) (fun b hb => (HBN.out b hb).2))
                  go_wp2_with (first | (refine wpList_load_row rfl 47 _ rfl (q9) rfl 47 (MV F fs.length fc gs (some ⟨g2, 0, none⟩) n2 c2 0 0) (0, 0) _ HK8F.out.h9 Tryd.underlying47 rfl (mv_info _ _ _ _ _ _ _ _ _) ?_) | (refine wpList_store_row rfl 47 _ _ rfl (q + 2) (MV F fs.length fc gs (some ⟨g2, 0, none⟩) n2 c2 0 0) rfl rfl 47 _ HK8F.out.h3 (mv_info _ _ _ _ _ _ _ _ _) (mv_size _ _ _ _ _ _ _ _ _).symm (mv_one _ _ _ _ _ _ _ _ _) ?_))
                  refine bodyPost_ret (results_cell3 Tryd.results40 _ _ (q + 2) 47 (MV F fs.length fc gs (some ⟨g2, 0, none⟩) n2 c2 0 0) (0, 0) _ rfl (Blk.setRow HK8F.out.h3 _) Tryd.underlying47 rfl (mv_info _ _ _ _ _ _ _ _ _)) rfl ?_
                  rw [HSE.out]
                  obtain ⟨x1, x2, x3⟩ := ComS.finish HK8F.out HT8F.out (fun b hb => (HBN.out b hb).1) (MV F fs.length fc gs (some ⟨g2, 0, none⟩) n2 c2 0 0)
                  exact ⟨some ⟨g2, 0, none⟩, n2, c2, 0, 0, told, rfl, x1, fun _ => ⟨rfl, B', d', z2, HZ2.out, HN2.out, x2, x3, (fun x hx => (HC6.out.own.lt x hx).1), (fun x hx => Nat.le_trans HC3.out.bel.size (HFR.out x hx)), by rw [if_pos ⟨HUD.out, HX.out⟩], by rw [if_pos ⟨HUD.out, HY.out⟩]⟩⟩
                · have x2 : (ow1 == (kg : Int) + 1) = false := by simpa using hy
                  have HY := Lib.hid hy
                  clear hx hy
                  go_upto_region 14 with (fail)
                  have HK8F := Lib.hid ((ComS.field HC6.out 3 (.int .i64 0)))
                  have HT8F := Lib.hid (thok_cell HT11.out ⟨q9, 3, none⟩ (.int .i64 0) (fun b hb => (HBN.out b hb).2))
                  go_wp2_with (first | (refine wpList_load_row rfl 47 _ rfl (q9) rfl 47 (MV F fs.length fc gs (some ⟨g2, 0, none⟩) n2 c2 0 ow1) (0, 0) _ HK8F.out.h9 Tryd.underlying47 rfl (mv_info _ _ _ _ _ _ _ _ _) ?_) | (refine wpList_store_row rfl 47 _ _ rfl (q + 2) (MV F fs.length fc gs (some ⟨g2, 0, none⟩) n2 c2 0 ow1) rfl rfl 47 _ HK8F.out.h3 (mv_info _ _ _ _ _ _ _ _ _) (mv_size _ _ _ _ _ _ _ _ _).symm (mv_one _ _ _ _ _ _ _ _ _) ?_))
                  refine bodyPost_ret (results_cell3 Tryd.results40 _ _ (q + 2) 47 (MV F fs.length fc gs (some ⟨g2, 0, none⟩) n2 c2 0 ow1) (0, 0) _ rfl (Blk.setRow HK8F.out.h3 _) Tryd.underlying47 rfl (mv_info _ _ _ _ _ _ _ _ _)) rfl ?_
                  rw [HSE.out]
                  obtain ⟨x1, x2, x3⟩ := ComS.finish HK8F.out HT8F.out (fun b hb => (HBN.out b hb).1) (MV F fs.length fc gs (some ⟨g2, 0, none⟩) n2 c2 0 ow1)
                  exact ⟨some ⟨g2, 0, none⟩, n2, c2, 0, ow1, told, rfl, x1, fun _ => ⟨rfl, B', d', z2, HZ2.out, HN2.out, x2, x3, (fun x hx => (HC6.out.own.lt x hx).1), (fun x hx => Nat.le_trans HC3.out.bel.size (HFR.out x hx)), by rw [if_pos ⟨HUD.out, HX.out⟩], by rw [if_neg (fun h => HY.out h.2)]⟩⟩
              · have x1 : (ho1 == (kg : Int) + 1) = false := by simpa using hx
                have HX := Lib.hid hx
                by_cases hy : ow1 = (kg : Int) + 1
                · have x2 : (ow1 == (kg : Int) + 1) = true := by simpa using hy
                  have HY := Lib.hid hy
                  clear hx hy
                  go_upto_region 14 with (fail)
                  have HK8F := Lib.hid ((ComS.field HC6.out 4 (.int .i64 0)))
                  have HT8F := Lib.hid (thok_cell HT11.out ⟨q9, 4, none⟩ (.int .i64 0) (fun b hb => (HBN.out b hb).2))
                  go_wp2_with (first | (refine wpList_load_row rfl 47 _ rfl (q9) rfl 47 (MV F fs.length fc gs (some ⟨g2, 0, none⟩) n2 c2 ho1 0) (0, 0) _ HK8F.out.h9 Tryd.underlying47 rfl (mv_info _ _ _ _ _ _ _ _ _) ?_) | (refine wpList_store_row rfl 47 _ _ rfl (q + 2) (MV F fs.length fc gs (some ⟨g2, 0, none⟩) n2 c2 ho1 0) rfl rfl 47 _ HK8F.out.h3 (mv_info _ _ _ _ _ _ _ _ _) (mv_size _ _ _ _ _ _ _ _ _).symm (mv_one _ _ _ _ _ _ _ _ _) ?_))
                  refine bodyPost_ret (results_cell3 Tryd.results40 _ _ (q + 2) 47 (MV F fs.length fc gs (some ⟨g2, 0, none⟩) n2 c2 ho1 0) (0, 0) _ rfl (Blk.setRow HK8F.out.h3 _) Tryd.underlying47 rfl (mv_info _ _ _ _ _ _ _ _ _)) rfl ?_
                  rw [HSE.out]
                  obtain ⟨x1, x2, x3⟩ := ComS.finish HK8F.out HT8F.out (fun b hb => (HBN.out b hb).1) (MV F fs.length fc gs (some ⟨g2, 0, none⟩) n2 c2 ho1 0)
                  exact ⟨some ⟨g2, 0, none⟩, n2, c2, ho1, 0, told, rfl, x1, fun _ => ⟨rfl, B', d', z2, HZ2.out, HN2.out, x2, x3, (fun x hx => (HC6.out.own.lt x hx).1), (fun x hx => Nat.le_trans HC3.out.bel.size (HFR.out x hx)), by rw [if_neg (fun h => HX.out h.2)], by rw [if_pos ⟨HUD.out, HY.out⟩]⟩⟩
                · have x2 : (ow1 == (kg : Int) + 1) = false := by simpa using hy
                  have HY := Lib.hid hy
                  clear hx hy
                  go_upto_region 14 with (fail)
                  have HK8F := Lib.hid (HC6.out)
                  have HT8F := Lib.hid (HT11.out)
                  go_wp2_with (first | (refine wpList_load_row rfl 47 _ rfl (q9) rfl 47 (MV F fs.length fc gs (some ⟨g2, 0, none⟩) n2 c2 ho1 ow1) (0, 0) _ HK8F.out.h9 Tryd.underlying47 rfl (mv_info _ _ _ _ _ _ _ _ _) ?_) | (refine wpList_store_row rfl 47 _ _ rfl (q + 2) (MV F fs.length fc gs (some ⟨g2, 0, none⟩) n2 c2 ho1 ow1) rfl rfl 47 _ HK8F.out.h3 (mv_info _ _ _ _ _ _ _ _ _) (mv_size _ _ _ _ _ _ _ _ _).symm (mv_one _ _ _ _ _ _ _ _ _) ?_))
                  refine bodyPost_ret (results_cell3 Tryd.results40 _ _ (q + 2) 47 (MV F fs.length fc gs (some ⟨g2, 0, none⟩) n2 c2 ho1 ow1) (0, 0) _ rfl (Blk.setRow HK8F.out.h3 _) Tryd.underlying47 rfl (mv_info _ _ _ _ _ _ _ _ _)) rfl ?_
                  rw [HSE.out]
                  obtain ⟨x1, x2, x3⟩ := ComS.finish HK8F.out HT8F.out (fun b hb => (HBN.out b hb).1) (MV F fs.length fc gs (some ⟨g2, 0, none⟩) n2 c2 ho1 ow1)
                  exact ⟨some ⟨g2, 0, none⟩, n2, c2, ho1, ow1, told, rfl, x1, fun _ => ⟨rfl, B', d', z2, HZ2.out, HN2.out, x2, x3, (fun x hx => (HC6.out.own.lt x hx).1), (fun x hx => Nat.le_trans HC3.out.bel.size (HFR.out x hx)), by rw [if_neg (fun h => HX.out h.2)], by rw [if_neg (fun h => HY.out h.2)]⟩⟩
          · go_wp2_with fail
            obtain ⟨v8, HV8⟩ : ∃ X, Hid (X = (v7.alloc (.cells #[.int .i64 0, .int .i64 0, .int .i64 0, .int .i64 0, .int .i64 0, .int .i64 0, .int .i64 0, .int .i64 0, .int .i64 0, .int .i64 0, .slice none 0 0, .bool false] 56)).drew) := ⟨_, Lib.hid rfl⟩
            obtain ⟨q5, HQ5⟩ : ∃ x, Hid (x = v7.heap.size) := ⟨_, Lib.hid rfl⟩
            have HBA := Lib.hid (show SB27 v7 v8 by rw [HV8.out]; exact ((Below.refl v7.heap.size v7).alloc (Nat.le_refl _) _).drew)
            have HKA := Lib.hid (show Blk v8 q5 56 #[.int .i64 0, .int .i64 0, .int .i64 0, .int .i64 0, .int .i64 0, .int .i64 0, .int .i64 0, .int .i64 0, .int .i64 0, .int .i64 0, .slice none 0 0, .bool false] by rw [HV8.out, HQ5.out]; exact (Blk.new v7 _ _).drew)
            have HL5 := Lib.hid (show v7.heap.size ≤ q5 by rw [HQ5.out]; exact Nat.le_refl _)
            rw [← HV8.out, ← HQ5.out]
            refine ⟨SB27 v7, HBA.out, fun _ h => h, ?_⟩
            (try simp only [Act.put, List.setIfInBounds_toArray, List.set_cons_zero, List.set_cons_succ]); refine tree_one ?_; simp only [pickOps, List.getElem?_toArray]; (repeat (first | go_big_quiet_skip | (go_big_quiet_want; first | (go_big_quiet_op; first | go_big_quiet_on | ((first | with_reducible refine ⟨_, fun _ _ => rfl, ?_⟩); go_big_quiet_on)) | (simp (contextual := true) [go_sem, HN]; with_reducible refine ⟨_, fun _ _ => rfl, ?_⟩; go_big_quiet_on)))); refine wpQuiet_nil ?_
            go_wp2_with (go_at_call 61; refine (HSTP.out _ HBA.out).mono ?_; rintro e v8b ⟨B', d', rfl, hth, hfr, hb⟩)
            have HB8 := Lib.hid (show SB27 v7 v8b from Below.trans HBA.out (hb.mono (Below.size HBA.out)))
            have HK8 := Lib.hid (HKA.out.below hb HKA.out.lt)
            have HT8 := Lib.hid hth
            have HFR := Lib.hid (show ∀ b, ob B' = some b → v7.heap.size ≤ b from fun b hb => Nat.le_trans (Below.size HBA.out) (hfr b hb))
            have HFQ := Lib.hid (show ∀ b, ob B' = some b → b ≠ q5 from fun b hb e => by
              have h1 := hfr b hb
              have h2 := HKA.out.lt
              omega)
            have HZ0 := Lib.hid (show (Tryd.prog.info? 56).map (·.size) = some (thArr u B' d').size by rw [thArr_size B' d' hth.regs]; exact Tryd.infoTh)
            have HZ12 := Lib.hid (show (12 : Nat) = (thArr u B' d').size from (thArr_size B' d' hth.regs).symm)
            clear hth hfr hb
            refine ⟨SB27 v7, HB8.out, fun _ h => h, ?_⟩
            (try simp only [Act.put, List.setIfInBounds_toArray, List.set_cons_zero, List.set_cons_succ]); refine tree_one ?_; simp only [pickOps, List.getElem?_toArray, List.getElem?_cons_zero, List.getElem?_cons_succ]; (repeat (first | go_big_quiet_skip | (go_big_quiet_want; first | (go_big_quiet_op; first | go_big_quiet_on | ((first | with_reducible refine ⟨_, fun _ _ => rfl, ?_⟩); go_big_quiet_on)) | (simp (contextual := true) [go_sem, HN]; with_reducible refine ⟨_, fun _ _ => rfl, ?_⟩; go_big_quiet_on)))); refine wpQuiet_nil ?_
            go_wp2_with (refine wpList_store_row rfl 56 _ _ rfl q5 (thArr u B' d') rfl rfl 56 _ HK8.out HZ0.out HZ12.out (thArr_one u B' d') ?_)
            obtain ⟨v9, HV9⟩ : ∃ X, Hid (X = v8b.setRow q5 (thArr u B' d')) := ⟨_, Lib.hid rfl⟩
            have HB9 := Lib.hid (show SB27 v7 v9 by rw [HV9.out]; exact below_setRow HB8.out HL5.out (Below.size HB8.out) _)
            have HK5 := Lib.hid (show Blk v9 q5 56 (thArr u B' d') by rw [HV9.out]; exact HK8.out.setRow _)
            have HT9 := Lib.hid (show ThOk v9 v9.heap.size u B' d' by
              rw [HV9.out]
              exact thok_mv HT8.out (((Mv.refl [q5] v8b).setRow q5 _ (by simp))) (fun _ b hb => by have := HFQ.out b hb; simpa using this))
            rw [← HV9.out]
            refine ⟨SB27 v7, HB9.out, fun _ h => h, ?_⟩
            (try simp only [Act.put]); refine tree_fin ?_; simp only [pickOps, List.getElem?_toArray, List.getElem?_cons_zero, List.getElem?_cons_succ]; (repeat (first | go_big_quiet_skip | (go_big_quiet_want; first | (go_big_quiet_op; first | go_big_quiet_on | ((first | with_reducible refine ⟨_, fun _ _ => rfl, ?_⟩); go_big_quiet_on)) | (simp (contextual := true) [go_sem, HN]; with_reducible refine ⟨_, fun _ _ => rfl, ?_⟩; go_big_quiet_on)))); refine wpQuiet_nil ?_
            clear HV9 HQ5 HT8 HB8 HZ0 HSTP HVD HK8 HFQ HBA HKA HV8
            have HC4 := Lib.hid (ComS.step HC3.out HB9.out)
            obtain ⟨g2, cur, rfl, hcb, hcs, hown2⟩ := own_thread HC4.out.own HN2.out HZ2.out u B' d' HT9.out.regs
            have HG2 := Lib.hid (show g2 < v7.heap.size from (HC3.out.own.lt g2 rfl).2)
            have hq7 := HC3.out.h3.lt
            have hq97 := HC3.out.h9.lt
            have HBN := Lib.hid (show ∀ b, ob B' = some b → b ≠ q + 2 ∧ b ≠ q9 from fun b hb => by have := HFR.out b hb; omega)
            have hkn2 : kg < n2 := by rw [HN2.out]; exact (List.getElem?_eq_some_iff.1 HZ2.out).1
            have HCB := Lib.hid hcb
            have HCS := Lib.hid hcs
            have HSZU := Lib.hid (show (Tryd.prog.info? 56).map (·.size) = some (thArr u B' d').size by rw [thArr_size B' d' HT9.out.regs]; exact Tryd.infoTh)
            obtain ⟨v10, HV10⟩ : ∃ X, Hid (X = v9.setRow g2 (splice cur (kg * 16) (thArr u B' d'))) := ⟨_, Lib.hid rfl⟩
            rw [← HV10.out] at hown2
            have HM10 := Lib.hid (show Mv (ob (some ⟨g2, 0, none⟩ : Option Addr)).toList v9 v10 by rw [HV10.out]; exact (Mv.refl _ _).setRow g2 _ (by simp [ob]))
            have HC5 := Lib.hid (ComS.row HC4.out HM10.out hown2 (.inl rfl))
            have HK10 := Lib.hid (HM10.out.blk HK5.out (by have h1 := HG2.out; have h2 := HL5.out; intro hc; have h3 : q5 = g2 := (by simpa [ob] using hc); omega))
            have HT10 := Lib.hid (thok_mv HT9.out HM10.out (fun _ b hb => by have h1 := HG2.out; have h2 := HFR.out b hb; intro hc; have h3 : b = g2 := (by simpa [ob] using hc); omega))
            have hk3 : kg < (rs2.set kg ⟨{ z2.x with th := u }, B', d'⟩).length := by rw [List.length_set]; exact (List.getElem?_eq_some_iff.1 HZ2.out).1
            obtain ⟨g3, hge, -, -, hcc, hfz, hset⟩ := own_pg HC5.out.own (by rw [List.length_set]; exact HN2.out) hk3
            obtain rfl : g2 = g3 := by injection hge with hge; injection hge with hge
            rw [List.getElem_set_self] at hcc hset
            have y15 := hcc 15 _ rfl
            have f15 := hfz 15
            obtain ⟨ho11, -⟩ := hset 15 (.bool false) ⟨{ z2.x with th := u, beg := false }, B', d'⟩ (by decide) rfl
            rw [List.set_set] at ho11
            obtain ⟨v11, HV11⟩ : ∃ X, Hid (X = v10.setCell ⟨g2, kg * 16 + 15, none⟩ (.bool false)) := ⟨_, Lib.hid rfl⟩
            rw [← HV11.out] at ho11
            have HM11 := Lib.hid (show Mv (ob (some ⟨g2, 0, none⟩ : Option Addr)).toList v10 v11 by rw [HV11.out]; exact (Mv.refl _ _).set _ _ (by simp [ob]))
            have HC6 := Lib.hid (ComS.row HC5.out HM11.out ho11 (.inl rfl))
            have HK11 := Lib.hid (HM11.out.blk HK10.out (by have h1 := HG2.out; have h2 := HL5.out; intro hc; have h3 : q5 = g2 := (by simpa [ob] using hc); omega))
            have HT11 := Lib.hid (thok_mv HT10.out HM11.out (fun _ b hb => by have h1 := HG2.out; have h2 := HFR.out b hb; intro hc; have h3 : b = g2 := (by simpa [ob] using hc); omega))
            have o29 := (mv_cells HC4.out.h9).2.2.1
            have o210 := (mv_cells HC5.out.h9).2.2.1
            obtain ⟨-, -, -, p3, p4⟩ := mv_cells HC6.out.h9
            have fp3 := HC6.out.h9.frozen 3
            have fp4 := HC6.out.h9.frozen 4
            have p4b := (mv_cells (F := F) (A := some ⟨g2, 0, none⟩) (ComS.field HC6.out 3 (.int .i64 0)).h9).2.2.2.2
            have d11 : v11.cell? ⟨q5, 11, none⟩ = some (.bool u.done) := (HK11.out.cell 11).trans (thArr_11 _ _ HT11.out.regs)
            have d11b : (v11.setCell ⟨q9, 3, none⟩ (.int .i64 0)).cell? ⟨q5, 11, none⟩ = some (.bool u.done) := ((HK11.out.far (p := ⟨q9, 3, none⟩) (by have h2 := HL5.out; show q5 ≠ q9; omega) _).cell 11).trans (thArr_11 _ _ HT11.out.regs)
            have hv10 := HV10.out
            clear hcb hcs hown2 hge hcc hfz hset ho11 hk3 hq7 hq97
            go_upto_region 9 with (first | (refine wpList_load_rowW (by rfl) 56 _ rfl q5 rfl 56 (thArr u B' d') (0, 0) _ HK5.out Tryd.underlying56 rfl HSZU.out ?_) | (refine wpList_store_sub rfl 56 _ _ rfl g2 (kg * 16) (thArr u B' d') rfl rfl 77 _ HCB.out HSZU.out HCS.out (thArr_one u B' d') ?_; rw [← hv10]; clear hv10))
            clear o29
            go_upto_region 10 with (fail)
            rw [← HV11.out]
            clear y15 f15 o210
            cases hud : u.done with
            | false =>
              rw [hud] at d11 d11b
              have HUD := Lib.hid hud
              clear hud
              go_upto_region 14 with (fail)
              have HK8F := Lib.hid (HC6.out)
              have HT8F := Lib.hid (HT11.out)
              go_wp2_with (first | (refine wpList_load_row rfl 47 _ rfl (q9) rfl 47 (MV F fs.length fc gs (some ⟨g2, 0, none⟩) n2 c2 ho1 ow1) (0, 0) _ HK8F.out.h9 Tryd.underlying47 rfl (mv_info _ _ _ _ _ _ _ _ _) ?_) | (refine wpList_store_row rfl 47 _ _ rfl (q + 2) (MV F fs.length fc gs (some ⟨g2, 0, none⟩) n2 c2 ho1 ow1) rfl rfl 47 _ HK8F.out.h3 (mv_info _ _ _ _ _ _ _ _ _) (mv_size _ _ _ _ _ _ _ _ _).symm (mv_one _ _ _ _ _ _ _ _ _) ?_))
              refine bodyPost_ret (results_cell3 Tryd.results40 _ _ (q + 2) 47 (MV F fs.length fc gs (some ⟨g2, 0, none⟩) n2 c2 ho1 ow1) (0, 0) _ rfl (Blk.setRow HK8F.out.h3 _) Tryd.underlying47 rfl (mv_info _ _ _ _ _ _ _ _ _)) rfl ?_
              rw [HSE.out]
              obtain ⟨x1, x2, x3⟩ := ComS.finish HK8F.out HT8F.out (fun b hb => (HBN.out b hb).1) (MV F fs.length fc gs (some ⟨g2, 0, none⟩) n2 c2 ho1 ow1)
              exact ⟨some ⟨g2, 0, none⟩, n2, c2, ho1, ow1, told, rfl, x1, fun _ => ⟨rfl, B', d', z2, HZ2.out, HN2.out, x2, x3, (fun x hx => (HC6.out.own.lt x hx).1), (fun x hx => Nat.le_trans HC3.out.bel.size (HFR.out x hx)), by rw [if_neg (fun h => by rw [HUD.out] at h; cases h.1)], by rw [if_neg (fun h => by rw [HUD.out] at h; cases h.1)]⟩⟩
            | true =>
              rw [hud] at d11 d11b
              have HUD := Lib.hid hud
              clear hud
              by_cases hx : ho1 = (kg : Int) + 1
              · have x1 : (ho1 == (kg : Int) + 1) = true := by simpa using hx
                have HX := Lib.hid hx
                by_cases hy : ow1 = (kg : Int) + 1
                · have x2 : (ow1 == (kg : Int) + 1) = true := by simpa using hy
                  have HY := Lib.hid hy
                  clear hx hy
                  go_upto_region 14 with (fail)
                  have HK8F := Lib.hid ((ComS.field (ComS.field HC6.out 3 (.int .i64 0)) 4 (.int .i64 0)))
                  have HT8F := Lib.hid (thok_cell (thok_cell HT11.out ⟨q9, 3, none⟩ (.int .i64 0) (fun b hb => (HBN.out b hb).2)) ⟨q9, 4, none⟩ (.int .i64 0) (fun b hb => (HBN.out b hb).2))
                  go_wp2_with (first | (refine wpList_load_row rfl 47 _ rfl (q9) rfl 47 (MV F fs.length fc gs (some ⟨g2, 0, none⟩) n2 c2 0 0) (0, 0) _ HK8F.out.h9 Tryd.underlying47 rfl (mv_info _ _ _ _ _ _ _ _ _) ?_) | (refine wpList_store_row rfl 47 _ _ rfl (q + 2) (MV F fs.length fc gs (some ⟨g2, 0, none⟩) n2 c2 0 0) rfl rfl 47 _ HK8F.out.h3 (mv_info _ _ _ _ _ _ _ _ _) (mv_size _ _ _ _ _ _ _ _ _).symm (mv_one _ _ _ _ _ _ _ _ _) ?_))
                  refine bodyPost_ret (results_cell3 Tryd.results40 _ _ (q + 2) 47 (MV F fs.length fc gs (some ⟨g2, 0, none⟩) n2 c2 0 0) (0, 0) _ rfl (Blk.setRow HK8F.out.h3 _) Tryd.underlying47 rfl (mv_info _ _ _ _ _ _ _ _ _)) rfl ?_
                  rw [HSE.out]
                  obtain ⟨x1, x2, x3⟩ := ComS.finish HK8F.out HT8F.out (fun b hb => (HBN.out b hb).1) (MV F fs.length fc gs (some ⟨g2, 0, none⟩) n2 c2 0 0)
                  exact ⟨some ⟨g2, 0, none⟩, n2, c2, 0, 0, told, rfl, x1, fun _ => ⟨rfl, B', d', z2, HZ2.out, HN2.out, x2, x3, (fun x hx => (HC6.out.own.lt x hx).1), (fun x hx => Nat.le_trans HC3.out.bel.size (HFR.out x hx)), by rw [if_pos ⟨HUD.out, HX.out⟩], by rw [if_pos ⟨HUD.out, HY.out⟩]⟩⟩
                · have x2 : (ow1 == (kg : Int) + 1) = false := by simpa using hy
                  have HY := Lib.hid hy
                  clear hx hy
                  go_upto_region 14 with (fail)
                  have HK8F := Lib.hid ((ComS.field HC6.out 3 (.int .i64 0)))
                  have HT8F := Lib.hid (thok_cell HT11.out ⟨q9, 3, none⟩ (.int .i64 0) (fun b hb => (HBN.out b hb).2))
                  go_wp2_with (first | (refine wpList_load_row rfl 47 _ rfl (q9) rfl 47 (MV F fs.length fc gs (some ⟨g2, 0, none⟩) n2 c2 0 ow1) (0, 0) _ HK8F.out.h9 Tryd.underlying47 rfl (mv_info _ _ _ _ _ _ _ _ _) ?_) | (refine wpList_store_row rfl 47 _ _ rfl (q + 2) (MV F fs.length fc gs (some ⟨g2, 0, none⟩) n2 c2 0 ow1) rfl rfl 47 _ HK8F.out.h3 (mv_info _ _ _ _ _ _ _ _ _) (mv_size _ _ _ _ _ _ _ _ _).symm (mv_one _ _ _ _ _ _ _ _ _) ?_))
                  refine bodyPost_ret (results_cell3 Tryd.results40 _ _ (q + 2) 47 (MV F fs.length fc gs (some ⟨g2, 0, none⟩) n2 c2 0 ow1) (0, 0) _ rfl (Blk.setRow HK8F.out.h3 _) Tryd.underlying47 rfl (mv_info _ _ _ _ _ _ _ _ _)) rfl ?_
                  rw [HSE.out]
                  obtain ⟨x1, x2, x3⟩ := ComS.finish HK8F.out HT8F.out (fun b hb => (HBN.out b hb).1) (MV F fs.length fc gs (some ⟨g2, 0, none⟩) n2 c2 0 ow1)
                  exact ⟨some ⟨g2, 0, none⟩, n2, c2, 0, ow1, told, rfl, x1, fun _ => ⟨rfl, B', d', z2, HZ2.out, HN2.out, x2, x3, (fun x hx => (HC6.out.own.lt x hx).1), (fun x hx => Nat.le_trans HC3.out.bel.size (HFR.out x hx)), by rw [if_pos ⟨HUD.out, HX.out⟩], by rw [if_neg (fun h => HY.out h.2)]⟩⟩
              · have x1 : (ho1 == (kg : Int) + 1) = false := by simpa using hx
                have HX := Lib.hid hx
                by_cases hy : ow1 = (kg : Int) + 1
                · have x2 : (ow1 == (kg : Int) + 1) = true := by simpa using hy
                  have HY := Lib.hid hy
                  clear hx hy
                  go_upto_region 14 with (fail)
                  have HK8F := Lib.hid ((ComS.field HC6.out 4 (.int .i64 0)))
                  have HT8F := Lib.hid (thok_cell HT11.out ⟨q9, 4, none⟩ (.int .i64 0) (fun b hb => (HBN.out b hb).2))
                  go_wp2_with (first | (refine wpList_load_row rfl 47 _ rfl (q9) rfl 47 (MV F fs.length fc gs (some ⟨g2, 0, none⟩) n2 c2 ho1 0) (0, 0) _ HK8F.out.h9 Tryd.underlying47 rfl (mv_info _ _ _ _ _ _ _ _ _) ?_) | (refine wpList_store_row rfl 47 _ _ rfl (q + 2) (MV F fs.length fc gs (some ⟨g2, 0, none⟩) n2 c2 ho1 0) rfl rfl 47 _ HK8F.out.h3 (mv_info _ _ _ _ _ _ _ _ _) (mv_size _ _ _ _ _ _ _ _ _).symm (mv_one _ _ _ _ _ _ _ _ _) ?_))
                  refine bodyPost_ret (results_cell3 Tryd.results40 _ _ (q + 2) 47 (MV F fs.length fc gs (some ⟨g2, 0, none⟩) n2 c2 ho1 0) (0, 0) _ rfl (Blk.setRow HK8F.out.h3 _) Tryd.underlying47 rfl (mv_info _ _ _ _ _ _ _ _ _)) rfl ?_
                  rw [HSE.out]
                  obtain ⟨x1, x2, x3⟩ := ComS.finish HK8F.out HT8F.out (fun b hb => (HBN.out b hb).1) (MV F fs.length fc gs (some ⟨g2, 0, none⟩) n2 c2 ho1 0)
                  exact ⟨some ⟨g2, 0, none⟩, n2, c2, ho1, 0, told, rfl, x1, fun _ => ⟨rfl, B', d', z2, HZ2.out, HN2.out, x2, x3, (fun x hx => (HC6.out.own.lt x hx).1), (fun x hx => Nat.le_trans HC3.out.bel.size (HFR.out x hx)), by rw [if_neg (fun h => HX.out h.2)], by rw [if_pos ⟨HUD.out, HY.out⟩]⟩⟩
                · have x2 : (ow1 == (kg : Int) + 1) = false := by simpa using hy
                  have HY := Lib.hid hy
                  clear hx hy
                  go_upto_region 14 with (fail)
                  have HK8F := Lib.hid (HC6.out)
                  have HT8F := Lib.hid (HT11.out)
                  go_wp2_with (first | (refine wpList_load_row rfl 47 _ rfl (q9) rfl 47 (MV F fs.length fc gs (some ⟨g2, 0, none⟩) n2 c2 ho1 ow1) (0, 0) _ HK8F.out.h9 Tryd.underlying47 rfl (mv_info _ _ _ _ _ _ _ _ _) ?_) | (refine wpList_store_row rfl 47 _ _ rfl (q + 2) (MV F fs.length fc gs (some ⟨g2, 0, none⟩) n2 c2 ho1 ow1) rfl rfl 47 _ HK8F.out.h3 (mv_info _ _ _ _ _ _ _ _ _) (mv_size _ _ _ _ _ _ _ _ _).symm (mv_one _ _ _ _ _ _ _ _ _) ?_))
                  refine bodyPost_ret (results_cell3 Tryd.results40 _ _ (q + 2) 47 (MV F fs.length fc gs (some ⟨g2, 0, none⟩) n2 c2 ho1 ow1) (0, 0) _ rfl (Blk.setRow HK8F.out.h3 _) Tryd.underlying47 rfl (mv_info _ _ _ _ _ _ _ _ _)) rfl ?_
                  rw [HSE.out]
                  obtain ⟨x1, x2, x3⟩ := ComS.finish HK8F.out HT8F.out (fun b hb => (HBN.out b hb).1) (MV F fs.length fc gs (some ⟨g2, 0, none⟩) n2 c2 ho1 ow1)
                  exact ⟨some ⟨g2, 0, none⟩, n2, c2, ho1, ow1, told, rfl, x1, fun _ => ⟨rfl, B', d', z2, HZ2.out, HN2.out, x2, x3, (fun x hx => (HC6.out.own.lt x hx).1), (fun x hx => Nat.le_trans HC3.out.bel.size (HFR.out x hx)), by rw [if_neg (fun h => HX.out h.2)], by rw [if_neg (fun h => HY.out h.2)]⟩⟩
  · go_wp2_with fail
    have HR0 := Lib.hid (show Raw w W.drew q (MV F fs.length fc gs (some ⟨g, off, none⟩) n c ho ow) (insArr i) #[.slice none 0 0, .int .i64 0, .slice none 0 0, .int .i64 0, .int .i64 0] none 0 0 [] from ⟨H1.out.drew, H2.out.drew, H3.out.drew, own_nil27 _ _, (fun b hb => by cases hb), HBW.out.drew, HLQ.out⟩)
    have HK0 := Lib.hid (Raw.late HR0.out #[.slice none 0 0, .int .i64 0, .slice none 0 0, .int .i64 0, .int .i64 0])
    obtain ⟨v3, HV3⟩ : ∃ V, Hid (V = W.drew.alloc (.cells #[.slice none 0 0, .int .i64 0, .slice none 0 0, .int .i64 0, .int .i64 0] 47)) := ⟨_, Lib.hid rfl⟩
    obtain ⟨q9, HQ9⟩ : ∃ x, Hid (x = W.heap.size) := ⟨_, Lib.hid rfl⟩
    have HB3 := Lib.hid (show Below W.heap.size W v3 by rw [HV3.out]; exact HDW.out.alloc HDW.out.size _)
    rw [show (W.alloc (.cells #[.slice none 0 0, .int .i64 0, .slice none 0 0, .int .i64 0, .int .i64 0] 47)).drew = v3 from HV3.out.symm]
    rw [← HV3.out, show W.drew.heap.size = q9 from HQ9.out.symm] at HK0
    rw [← HQ9.out]
    refine ⟨SA q (MV F fs.length fc gs (some ⟨g, off, none⟩) n c ho ow) (q + 1) (insArr i), ⟨HK0.out.h1, HK0.out.h2⟩, fun _ h => h, ?_⟩
    (try simp only [Act.put, List.setIfInBounds_toArray, List.set_cons_zero, List.set_cons_succ]); refine tree_one ?_; simp only [pickOps, List.getElem?_toArray, List.getElem?_cons_zero, List.getElem?_cons_succ]; (repeat (first | go_big_quiet_skip | (go_big_quiet_want; first | (go_big_quiet_op; first | go_big_quiet_on | ((first | with_reducible refine ⟨_, fun _ _ => rfl, ?_⟩); go_big_quiet_on)) | (simp (contextual := true) [go_sem, HN]; with_reducible refine ⟨_, fun _ _ => rfl, ?_⟩; go_big_quiet_on)))); refine wpQuiet_nil ?_
    go_wp2_with (go_at_call 57; refine (HCP.out _ HB3.out).mono ?_; rintro e v1 ⟨A1, c1, rfl, ho1', hb1'⟩)
    have HK1 := Lib.hid (ComS.fresh HK0.out hb1' ho1')
    clear ho1' hb1'
    refine ⟨SA q (MV F fs.length fc gs (some ⟨g, off, none⟩) n c ho ow) (q + 1) (insArr i), ⟨HK1.out.h1, HK1.out.h2⟩, fun _ h => h, ?_⟩
    (try simp only [Act.put, List.setIfInBounds_toArray, List.set_cons_zero, List.set_cons_succ]); refine tree_one ?_; simp only [pickOps, List.getElem?_toArray, List.getElem?_cons_zero, List.getElem?_cons_succ]; (repeat (first | go_big_quiet_skip | (go_big_quiet_want; first | (go_big_quiet_op; first | go_big_quiet_on | ((first | with_reducible refine ⟨_, fun _ _ => rfl, ?_⟩); go_big_quiet_on)) | (simp (contextual := true) [go_sem, HN]; with_reducible refine ⟨_, fun _ _ => rfl, ?_⟩; go_big_quiet_on)))); refine wpQuiet_nil ?_
    go_wp2_with (go_at_call 59; refine (HWD.out _ _ _ HK1.out.own).mono ?_; rintro e v2 ⟨rfl, ho2', hm2'⟩)
    have HK2 := Lib.hid (ComS.row HK1.out hm2' ho2' (.inl rfl))
    clear ho2' hm2'
    refine ⟨SA q (MV F fs.length fc gs (some ⟨g, off, none⟩) n c ho ow) (q + 1) (insArr i), ⟨HK2.out.h1, HK2.out.h2⟩, fun _ h => h, ?_⟩
    (try simp only [Act.put, List.setIfInBounds_toArray, List.set_cons_zero, List.set_cons_succ]); refine tree_one ?_; simp only [pickOps, List.getElem?_toArray, List.getElem?_cons_zero, List.getElem?_cons_succ]; (repeat (first | go_big_quiet_skip | (go_big_quiet_want; first | (go_big_quiet_op; first | go_big_quiet_on | ((first | with_reducible refine ⟨_, fun _ _ => rfl, ?_⟩); go_big_quiet_on)) | (simp (contextual := true) [go_sem, HN]; with_reducible refine ⟨_, fun _ _ => rfl, ?_⟩; go_big_quiet_on)))); refine wpQuiet_nil ?_
    go_wp2_with (refine wpList_store_row rfl 47 _ _ rfl (q9) (MV F fs.length fc gs A1 n c1 ho1 ow1) rfl rfl 47 _ HK2.out.h9 (mv_info _ _ _ _ _ _ _ _ _) (mv_size _ _ _ _ _ _ _ _ _).symm (mv_one _ _ _ _ _ _ _ _ _) ?_)
    have HC := Lib.hid (ComS.box HK2.out (MV F fs.length fc gs A1 n c1 ho1 ow1))
    obtain ⟨v5, HV5⟩ : ∃ V, Hid (V = v2.setRow q9 (MV F fs.length fc gs A1 n c1 ho1 ow1)) := ⟨_, Lib.hid rfl⟩
    rw [← HV5.out] at HC ⊢
    refine ⟨SA q (MV F fs.length fc gs (some ⟨g, off, none⟩) n c ho ow) (q + 1) (insArr i), ⟨HC.out.h1, HC.out.h2⟩, fun _ h => h, ?_⟩
    (try simp only [Act.put]); refine tree_fin ?_; simp only [pickOps, List.getElem?_toArray, List.getElem?_cons_zero, List.getElem?_cons_succ]; (repeat (first | go_big_quiet_skip | (go_big_quiet_want; first | (go_big_quiet_op; first | go_big_quiet_on | ((first | with_reducible refine ⟨_, fun _ _ => rfl, ?_⟩); go_big_quiet_on)) | (simp (contextual := true) [go_sem, HN]; with_reducible refine ⟨_, fun _ _ => rfl, ?_⟩; go_big_quiet_on)))); refine wpQuiet_nil ?_
    cases b1 with
    | false =>
      go_upto_region 3 with (fail)
      go_wp2_with (first | (refine wpList_load_row rfl 47 _ rfl (q) rfl 47 (MV F fs.length fc gs (some ⟨g, off, none⟩) n c ho ow) (0, 0) _ HC.out.h1 Tryd.underlying47 rfl (mv_info _ _ _ _ _ _ _ _ _) ?_) | (refine wpList_store_row rfl 47 _ _ rfl (q + 2) (MV F fs.length fc gs (some ⟨g, off, none⟩) n c ho ow) rfl rfl 47 _ HC.out.h3 (mv_info _ _ _ _ _ _ _ _ _) (mv_size _ _ _ _ _ _ _ _ _).symm (mv_one _ _ _ _ _ _ _ _ _) ?_))
      refine bodyPost_ret (results_cell3 Tryd.results40 _ _ (q + 2) 47 (MV F fs.length fc gs (some ⟨g, off, none⟩) n c ho ow) (0, 0) _ rfl (Blk.setRow HC.out.h3 _) Tryd.underlying47 rfl (mv_info _ _ _ _ _ _ _ _ _)) rfl ?_
      exact ⟨_, _, _, _, _, 0, rfl, below_setRow HC.out.bel (by have := HC.out.lo.1; omega) HC.out.bel.size _, fun h => by cases h⟩
    | true =>
      go_upto_region 4 with (fail)
      have j0 : v5.cell? ⟨q + 1, 0, none⟩ = some (.int .i64 i.op) := (HC.out.h2.cell 0).trans rfl
      have j1 : v5.cell? ⟨q + 1, 1, none⟩ = some (.int .i64 i.a) := (HC.out.h2.cell 1).trans rfl
      have j2 : v5.cell? ⟨q + 1, 2, none⟩ = some (.int .i64 i.b) := (HC.out.h2.cell 2).trans rfl
      have j3 : v5.cell? ⟨q + 1, 3, none⟩ = some (.int .i64 i.c) := (HC.out.h2.cell 3).trans rfl
      have j4 : v5.cell? ⟨q + 1, 4, none⟩ = some (.int .i64 i.n) := (HC.out.h2.cell 4).trans rfl
      have HAS := Lib.hid (asks_any27 (F := F) (nf := fs.length) (fc := fc) (gs := gs) (ho := ho1) (ow := ow1) HC.out.own HZ1.out.2.2 HC.out.bel.size hn100 HGS.out kg z1 HZ1.out.1 i a HIA.out.1 HIA.out.2)
      rw [HZ1.out.2.1, HAR.out] at HAS
      unfold insArr at HAS
      go_wp2_with (refine wpList_load_row rfl 47 _ rfl (q9) rfl 47 (MV F fs.length fc gs A1 n c1 ho1 ow1) (0, 0) _ HC.out.h9 Tryd.underlying47 rfl (mv_info _ _ _ _ _ _ _ _ _) ?_)
      refine HAS.out.mono ?_
      rintro e v6 ⟨A2, n2, c2, rfl, hn2, ho2', hm2', ha2'⟩
      have HC2 := Lib.hid (ComS.row HC.out hm2' ho2' ha2')
      have HN2 := Lib.hid hn2
      clear hn2 ho2' hm2' ha2' j0 j1 j2 j3 j4 HAS
      go_upto_region 5 with (refine wpList_store_row rfl 47 _ _ rfl (q9) (MV F fs.length fc gs A2 n2 c2 ho1 ow1) rfl rfl 47 _ HC2.out.h9 (mv_info _ _ _ _ _ _ _ _ _) (mv_size _ _ _ _ _ _ _ _ _).symm (mv_one _ _ _ _ _ _ _ _ _) ?_)
      obtain ⟨v7, HV7⟩ : ∃ V, Hid (V = v6.setRow q9 (MV F fs.length fc gs A2 n2 c2 ho1 ow1)) := ⟨_, Lib.hid rfl⟩
      have HC3 := Lib.hid (ComS.box HC2.out (MV F fs.length fc gs A2 n2 c2 ho1 ow1))
      rw [← HV7.out] at HC3 ⊢
      cases b2 with
      | false =>
        go_upto_region 6 with (fail)
        go_wp2_with (first | (refine wpList_load_row rfl 47 _ rfl (q) rfl 47 (MV F fs.length fc gs (some ⟨g, off, none⟩) n c ho ow) (0, 0) _ HC3.out.h1 Tryd.underlying47 rfl (mv_info _ _ _ _ _ _ _ _ _) ?_) | (refine wpList_store_row rfl 47 _ _ rfl (q + 2) (MV F fs.length fc gs (some ⟨g, off, none⟩) n c ho ow) rfl rfl 47 _ HC3.out.h3 (mv_info _ _ _ _ _ _ _ _ _) (mv_size _ _ _ _ _ _ _ _ _).symm (mv_one _ _ _ _ _ _ _ _ _) ?_))
        refine bodyPost_ret (results_cell3 Tryd.results40 _ _ (q + 2) 47 (MV F fs.length fc gs (some ⟨g, off, none⟩) n c ho ow) (0, 0) _ rfl (Blk.setRow HC3.out.h3 _) Tryd.underlying47 rfl (mv_info _ _ _ _ _ _ _ _ _)) rfl ?_
        exact ⟨_, _, _, _, _, 0, rfl, below_setRow HC3.out.bel (by have := HC3.out.lo.1; omega) HC3.out.bel.size _, fun h => by cases h⟩
      | true =>
        go_upto_region 7 with (fail)
        have PL : ∀ w', SB27 v7 w' → (loadVar 24 ⟨q, 0, none⟩).run Tryd.prog w' = .ok (.agg #[.slice F fs.length fc]) w' := fun w' h => run_loadVar_cells w' q 0 _ _ _ (fun j v hv => by
          have hj : j = 0 := by
            have := (Array.getElem?_eq_some_iff.1 hv).1
            simp at this
            omega
          subst hj
          rw [← hv]
          exact (Blk.cell (HC3.out.h1.below h HC3.out.h1.lt) 0).trans rfl) Tryd.underlying24 rfl (Tryd.infoPr1 _)
        have C2 : ∀ w', SB27 v7 w' → w'.cell? ⟨q, 2, none⟩ = some (.slice (some ⟨g, off, none⟩) n c) := fun w' h => (Blk.cell (HC3.out.h1.below h HC3.out.h1.lt) 2).trans rfl
        have LT : ∀ w', SB27 v7 w' → (loadVar 56 ⟨g, off + kg * 16, none⟩).run Tryd.prog w' = .ok (.agg (thArr z.x.th z.B z.d)) w' := fun w' h => run_loadVar_cells w' g (off + kg * 16) _ _ _ (fun j v hv => by
          have hj : j < 12 := by
            have := (Array.getElem?_eq_some_iff.1 hv).1
            rw [thArr_size z.B z.d HTZ.out.1.regs] at this
            exact this
          exact HGC.out w' (HC3.out.bel.trans (Below.mono h HC3.out.bel.size)) j v ((pg_th z HTZ.out.1.regs j hj).trans hv)) Tryd.underlying56 rfl (by rw [thArr_size z.B z.d HTZ.out.1.regs]; exact Tryd.infoTh)
        have HSTP := Lib.hid (fun (V : World) (hV : Below v7.heap.size v7 V) => rStep_run z.x.th F z.B fc z.d fs ans V HPR.out.2 (HPR.out.1.step (HC3.out.bel.trans (hV.mono HC3.out.bel.size))) (HTZ.out.1.step (HC3.out.bel.trans (hV.mono HC3.out.bel.size))) HTZ.out.2 HDN.out)
        obtain ⟨u, told, bo, HSE⟩ : ∃ u told bo, Hid (stepT fs z.x.th ans = (u, told, bo)) := ⟨_, _, _, Lib.hid rfl⟩
        rw [HSE.out] at HSTP
        have HVD := Lib.hid (show SB27 v7 v7.drew from (Below.refl _ v7).drew)
        refine region_tree (SB27 v7) (.two [0, 1, 2, 3, 4, 5, 6, 7, 8, 9] 10 (.one [11, 12, 13, 14] 15 (.one [] 16 (.fin [17, 18]))) 15 (.one [] 10 (.one [11, 12, 13, 14] 16 (.fin [17, 18])))) (by kernel_rfl) (by kernel_rfl) (by kernel_rfl) (fun _ _ d _ _ h => by cases d <;> exact h) HVD.out ?_
        (try simp only [Act.put]); refine tree_two ?_; simp only [pickOps, List.getElem?_toArray, List.getElem?_cons_zero, List.getElem?_cons_succ]; (repeat (first | (refine quiet_load_at (by rfl) 24 _ rfl ⟨q, 0, none⟩ rfl #[.slice F fs.length fc] PL ?_; simp only [Act.put, List.setIfInBounds_toArray, List.set_cons_zero, List.set_cons_succ]) | (refine quiet_load_at (by rfl) 56 _ rfl ⟨g, off + kg * 16, none⟩ rfl (thArr z.x.th z.B z.d) LT ?_; simp only [Act.put, List.setIfInBounds_toArray, List.set_cons_zero, List.set_cons_succ]) | go_big_quiet_skip | (go_big_quiet_want; first | (go_big_quiet_op; first | go_big_quiet_on | ((first | with_reducible refine ⟨_, fun _ _ => rfl, ?_⟩); go_big_quiet_on)) | (simp (contextual := true) [go_sem, C2]; with_reducible refine ⟨_, fun _ _ => rfl, ?_⟩; go_big_quiet_on)))); refine wpQuiet_nil ?_
        clear PL C2 LT
        refine ⟨?_, ?_⟩
        · go_wp2_with (go_at_call 61; refine (HSTP.out _ HVD.out).mono ?_; rintro e v8 ⟨B', d', rfl, hth, hfr, hb⟩)
          have HB8 := Lib.hid (show SB27 v7 v8 from Below.trans HVD.out (hb.mono (Below.size HVD.out)))
          have HT8 := Lib.hid hth
          have HFR := Lib.hid (show ∀ b, ob B' = some b → v7.heap.size ≤ b from hfr)
          have HZ0 := Lib.hid (show (Tryd.prog.info? 56).map (·.size) = some (thArr u B' d').size by rw [thArr_size B' d' hth.regs]; exact Tryd.infoTh)
          have HZ12 := Lib.hid (show (12 : Nat) = (thArr u B' d').size from (thArr_size B' d' hth.regs).symm)
          clear hth hfr hb
          refine ⟨SB27 v7, HB8.out, fun _ h => h, ?_⟩
          (try simp only [Act.put, List.setIfInBounds_toArray, List.set_cons_zero, List.set_cons_succ]); refine tree_one ?_; simp only [pickOps, List.getElem?_toArray, List.getElem?_cons_zero, List.getElem?_cons_succ]; (repeat (first | go_big_quiet_skip | (go_big_quiet_want; first | (go_big_quiet_op; first | go_big_quiet_on | ((first | with_reducible refine ⟨_, fun _ _ => rfl, ?_⟩); go_big_quiet_on)) | (simp (contextual := true) [go_sem, HN]; with_reducible refine ⟨_, fun _ _ => rfl, ?_⟩; go_big_quiet_on)))); refine wpQuiet_nil ?_
          go_wp2_with fail
          refine ⟨SB27 v7, Below.alloc HB8.out (Below.size HB8.out) _, fun _ h => h, ?_⟩
          (try simp only [Act.put]); refine tree_one ?_; simp only [pickOps, List.getElem?_toArray, List.getElem?_cons_zero, List.getElem?_cons_succ]; (repeat (first | go_big_quiet_skip | (go_big_quiet_want; first | (go_big_quiet_op; first | go_big_quiet_on | ((first | with_reducible refine ⟨_, fun _ _ => rfl, ?_⟩); go_big_quiet_on)) | (simp (contextual := true) [go_sem, HN]; with_reducible refine ⟨_, fun _ _ => rfl, ?_⟩; go_big_quiet_on)))); refine wpQuiet_nil ?_
          go_wp2_with (refine wpList_store_row rfl 56 _ _ rfl v8.heap.size (thArr u B' d') rfl rfl 56 _ (Blk.new v8 _ _) HZ0.out HZ12.out (thArr_one u B' d') ?_)
          obtain ⟨v9, HV9⟩ : ∃ X, Hid (X = (v8.alloc (.cells #[.int .i64 0, .int .i64 0, .int .i64 0, .int .i64 0, .int .i64 0, .int .i64 0, .int .i64 0, .int .i64 0, .int .i64 0, .int .i64 0, .slice none 0 0, .bool false] 56)).setRow v8.heap.size (thArr u B' d')) := ⟨_, Lib.hid rfl⟩
          obtain ⟨q5, HQ5⟩ : ∃ x, Hid (x = v8.heap.size) := ⟨_, Lib.hid rfl⟩
          have HB9 := Lib.hid (show SB27 v7 v9 by rw [HV9.out]; exact below_setRow (Below.alloc HB8.out (Below.size HB8.out) _) (Below.size HB8.out) (Below.size (Below.alloc HB8.out (Below.size HB8.out) _)) _)
          have HK5 := Lib.hid (show Blk v9 q5 56 (thArr u B' d') by rw [HV9.out, HQ5.out]; exact (Blk.new v8 _ _).setRow _)
          have HL5 := Lib.hid (show v7.heap.size ≤ q5 by rw [HQ5.out]; exact Below.size HB8.out)
          have HT9 := Lib.hid (show ThOk v9 v9.heap.size u B' d' by
            have hb := below_setRow ((Below.refl v8.heap.size v8).alloc (Nat.le_refl _) (.cells #[.int .i64 0, .int .i64 0, .int .i64 0, .int .i64 0, .int .i64 0, .int .i64 0, .int .i64 0, .int .i64 0, .int .i64 0, .int .i64 0, .slice none 0 0, .bool false] 56)) (Nat.le_refl _) (by rw [World.size_alloc]; omega) (thArr u B' d')
            rw [HV9.out]
            exact HT8.out.step hb)
          rw [← HV9.out, ← HQ5.out]
          refine ⟨SB27 v7, HB9.out, fun _ h => h, ?_⟩
          (try simp only [Act.put]); refine tree_fin ?_; simp only [pickOps, List.getElem?_toArray, List.getElem?_cons_zero, List.getElem?_cons_succ]; (repeat (first | go_big_quiet_skip | (go_big_quiet_want; first | (go_big_quiet_op; first | go_big_quiet_on | ((first | with_reducible refine ⟨_, fun _ _ => rfl, ?_⟩); go_big_quiet_on)) | (simp (contextual := true) [go_sem, HN]; with_reducible refine ⟨_, fun _ _ => rfl, ?_⟩; go_big_quiet_on)))); refine wpQuiet_nil ?_
          clear HV9 HQ5 HT8 HB8 HZ0 HSTP HVD
          have HC4 := Lib.hid (ComS.step HC3.out HB9.out)
          obtain ⟨g2, cur, rfl, hcb, hcs, hown2⟩ := own_thread HC4.out.own HN2.out HZ2.out u B' d' HT9.out.regs
          have HG2 := Lib.hid (show g2 < v7.heap.size from (HC3.out.own.lt g2 rfl).2)
          have hq7 := HC3.out.h3.lt
          have hq97 := HC3.out.h9.lt
          have HBN := Lib.hid (show ∀ b, ob B' = some b → b ≠ q + 2 ∧ b ≠ q9 from fun b hb => by have := HFR.out b hb; omega)
          have hkn2 : kg < n2 := by rw [HN2.out]; exact (List.getElem?_eq_some_iff.1 HZ2.out).1
          have HCB := Lib.hid hcb
          have HCS := Lib.hid hcs
          have HSZU := Lib.hid (show (Tryd.prog.info? 56).map (·.size) = some (thArr u B' d').size by rw [thArr_size B' d' HT9.out.regs]; exact Tryd.infoTh)
          obtain ⟨v10, HV10⟩ : ∃ X, Hid (X = v9.setRow g2 (splice cur (kg * 16) (thArr u B' d'))) := ⟨_, Lib.hid rfl⟩
          rw [← HV10.out] at hown2
          have HM10 := Lib.hid (show Mv (ob (some ⟨g2, 0, none⟩ : Option Addr)).toList v9 v10 by rw [HV10.out]; exact (Mv.refl _ _).setRow g2 _ (by simp [ob]))
          have HC5 := Lib.hid (ComS.row HC4.out HM10.out hown2 (.inl rfl))
          have HK10 := Lib.hid (HM10.out.blk HK5.out (by have h1 := HG2.out; have h2 := HL5.out; intro hc; have h3 : q5 = g2 := (by simpa [ob] using hc); omega))
          have HT10 := Lib.hid (thok_mv HT9.out HM10.out (fun _ b hb => by have h1 := HG2.out; have h2 := HFR.out b hb; intro hc; have h3 : b = g2 := (by simpa [ob] using hc); omega))
          have hk3 : kg < (rs2.set kg ⟨{ z2.x with th := u }, B', d'⟩).length := by rw [List.length_set]; exact (List.getElem?_eq_some_iff.1 HZ2.out).1
          obtain ⟨g3, hge, -, -, hcc, hfz, hset⟩ := own_pg HC5.out.own (by rw [List.length_set]; exact HN2.out) hk3
          obtain rfl : g2 = g3 := by injection hge with hge; injection hge with hge
          rw [List.getElem_set_self] at hcc hset
          have y15 := hcc 15 _ rfl
          have f15 := hfz 15
          obtain ⟨ho11, -⟩ := hset 15 (.bool false) ⟨{ z2.x with th := u, beg := false }, B', d'⟩ (by decide) rfl
          rw [List.set_set] at ho11
          obtain ⟨v11, HV11⟩ : ∃ X, Hid (X = v10.setCell ⟨g2, kg * 16 + 15, none⟩ (.bool false)) := ⟨_, Lib.hid rfl⟩
          rw [← HV11.out] at ho11
          have HM11 := Lib.hid (show Mv (ob (some ⟨g2, 0, none⟩ : Option Addr)).toList v10 v11 by rw [HV11.out]; exact (Mv.refl _ _).set _ _ (by simp [ob]))
          have HC6 := Lib.hid (ComS.row HC5.out HM11.out ho11 (.inl rfl))
          have HK11 := Lib.hid (HM11.out.blk HK10.out (by have h1 := HG2.out; have h2 := HL5.out; intro hc; have h3 : q5 = g2 := (by simpa [ob] using hc); omega))
          have HT11 := Lib.hid (thok_mv HT10.out HM11.out (fun _ b hb => by have h1 := HG2.out; have h2 := HFR.out b hb; intro hc; have h3 : b = g2 := (by simpa [ob] using hc); omega))
          have o29 := (mv_cells HC4.out.h9).2.2.1
          have o210 := (mv_cells HC5.out.h9).2.2.1
          obtain ⟨-, -, -, p3, p4⟩ := mv_cells HC6.out.h9
          have fp3 := HC6.out.h9.frozen 3
          have fp4 := HC6.out.h9.frozen 4
          have p4b := (mv_cells (F := F) (A := some ⟨g2, 0, none⟩) (ComS.field HC6.out 3 (.int .i64 0)).h9).2.2.2.2
          have d11 : v11.cell? ⟨q5, 11, none⟩ = some (.bool u.done) := (HK11.out.cell 11).trans (thArr_11 _ _ HT11.out.regs)
          have d11b : (v11.setCell ⟨q9, 3, none⟩ (.int .i64 0)).cell? ⟨q5, 11, none⟩ = some (.bool u.done) := ((HK11.out.far (p := ⟨q9, 3, none⟩) (by have h2 := HL5.out; show q5 ≠ q9; omega) _).cell 11).trans (thArr_11 _ _ HT11.out.regs)
          have hv10 := HV10.out
          clear hcb hcs hown2 hge hcc hfz hset ho11 hk3 hq7 hq97
          go_upto_region 9 with (first | (refine wpList_load_rowW (by rfl) 56 _ rfl q5 rfl 56 (thArr u B' d') (0, 0) _ HK5.out Tryd.underlying56 rfl HSZU.out ?_) | (refine wpList_store_sub rfl 56 _ _ rfl g2 (kg * 16) (thArr u B' d') rfl rfl 77 _ HCB.out HSZU.out HCS.out (thArr_one u B' d') ?_; rw [← hv10]; clear hv10))
          clear o29
          go_upto_region 10 with (fail)
          rw [← HV11.out]
          clear y15 f15 o210
          cases hud : u.done with
          | false =>
            rw [hud] at d11 d11b
            have HUD := Lib.hid hud
            clear hud
            go_upto_region 14 with (fail)
            have HK8F := Lib.hid (HC6.out)
            have HT8F := Lib.hid (HT11.out)
            go_wp2_with (first | (refine wpList_load_row rfl 47 _ rfl (q9) rfl 47 (MV F fs.length fc gs (some ⟨g2, 0, none⟩) n2 c2 ho1 ow1) (0, 0) _ HK8F.out.h9 Tryd.underlying47 rfl (mv_info _ _ _ _ _ _ _ _ _) ?_) | (refine wpList_store_row rfl 47 _ _ rfl (q + 2) (MV F fs.length fc gs (some ⟨g2, 0, none⟩) n2 c2 ho1 ow1) rfl rfl 47 _ HK8F.out.h3 (mv_info _ _ _ _ _ _ _ _ _) (mv_size _ _ _ _ _ _ _ _ _).symm (mv_one _ _ _ _ _ _ _ _ _) ?_))
            refine bodyPost_ret (results_cell3 Tryd.results40 _ _ (q + 2) 47 (MV F fs.length fc gs (some ⟨g2, 0, none⟩) n2 c2 ho1 ow1) (0, 0) _ rfl (Blk.setRow HK8F.out.h3 _) Tryd.underlying47 rfl (mv_info _ _ _ _ _ _ _ _ _)) rfl ?_
            rw [HSE.out]
            obtain ⟨x1, x2, x3⟩ := ComS.finish HK8F.out HT8F.out (fun b hb => (HBN.out b hb).1) (MV F fs.length fc gs (some ⟨g2, 0, none⟩) n2 c2 ho1 ow1)
            exact ⟨some ⟨g2, 0, none⟩, n2, c2, ho1, ow1, told, rfl, x1, fun _ => ⟨rfl, B', d', z2, HZ2.out, HN2.out, x2, x3, (fun x hx => (HC6.out.own.lt x hx).1), (fun x hx => Nat.le_trans HC3.out.bel.size (HFR.out x hx)), by rw [if_neg (fun h => by rw [HUD.out] at h; cases h.1)], by rw [if_neg (fun h => by rw [HUD.out] at h; cases h.1)]⟩⟩
          | true =>
            rw [hud] at d11 d11b
            have HUD := Lib.hid hud
            clear hud
            by_cases hx : ho1 = (kg : Int) + 1
            · have x1 : (ho1 == (kg : Int) + 1) = true := by simpa using hx
              have HX := Lib.hid hx
              by_cases hy : ow1 = (kg : Int) + 1
              · have x2 : (ow1 == (kg : Int) + 1) = true := by simpa using hy
                have HY := Lib.hid hy
                clear hx hy
                go_upto_region 14 with (fail)
                have HK8F := Lib.hid ((ComS.field (ComS.field HC6.out 3 (.int .i64 0)) 4 (.int .i64 0)))
                have HT8F := Lib.hid (thok_cell (thok_cell HT11.out ⟨q9, 3, none⟩ (.int .i64 0) (fun b hb => (HBN.out b hb).2)) ⟨q9, 4, none⟩ (.int .i64 0) (fun b hb => (HBN.out b hb).2))
                go_wp2_with (first | (refine wpList_load_row rfl 47 _ rfl (q9) rfl 47 (MV F fs.length fc gs (some ⟨g2, 0, none⟩) n2 c2 0 0) (0, 0) _ HK8F.out.h9 Tryd.underlying47 rfl (mv_info _ _ _ _ _ _ _ _ _) ?_) | (refine wpList_store_row rfl 47 _ _ rfl (q + 2) (MV F fs.length fc gs (some ⟨g2, 0, none⟩) n2 c2 0 0) rfl rfl 47 _ HK8F.out.h3 (mv_info _ _ _ _ _ _ _ _ _) (mv_size _ _ _ _ _ _ _ _ _).symm (mv_one _ _ _ _ _ _ _ _ _) ?_))
                refine bodyPost_ret (results_cell3 Tryd.results40 _ _ (q + 2) 47 (MV F fs.length fc gs (some ⟨g2, 0, none⟩) n2 c2 0 0) (0, 0) _ rfl (Blk.setRow HK8F.out.h3 _) Tryd.underlying47 rfl (mv_info _ _ _ _ _ _ _ _ _)) rfl ?_
                rw [HSE.out]
                obtain ⟨x1, x2, x3⟩ := ComS.finish HK8F.out HT8F.out (fun b hb => (HBN.out b hb).1) (MV F fs.length fc gs (some ⟨g2, 0, none⟩) n2 c2 0 0)
                exact ⟨some ⟨g2, 0, none⟩, n2, c2, 0, 0, told, rfl, x1, fun _ => ⟨rfl, B', d', z2, HZ2.out, HN2.out, x2, x3, (fun x hx => (HC6.out.own.lt x hx).1), (fun x hx => Nat.le_trans HC3.out.bel.size (HFR.out x hx)), by rw [if_pos ⟨HUD.out, HX.out⟩], by rw [if_pos ⟨HUD.out, HY.out⟩]⟩⟩
              · have x2 : (ow1 == (kg : Int) + 1) = false := by simpa using hy
                have HY := Lib.hid hy
                clear hx hy
                go_upto_region 14 with (fail)
                have HK8F := Lib.hid ((ComS.field HC6.out 3 (.int .i64 0)))
                have HT8F := Lib.hid (thok_cell HT11.out ⟨q9, 3, none⟩ (.int .i64 0) (fun b hb => (HBN.out b hb).2))
                go_wp2_with (first | (refine wpList_load_row rfl 47 _ rfl (q9) rfl 47 (MV F fs.length fc gs (some ⟨g2, 0, none⟩) n2 c2 0 ow1) (0, 0) _ HK8F.out.h9 Tryd.underlying47 rfl (mv_info _ _ _ _ _ _ _ _ _) ?_) | (refine wpList_store_row rfl 47 _ _ rfl (q + 2) (MV F fs.length fc gs (some ⟨g2, 0, none⟩) n2 c2 0 ow1) rfl rfl 47 _ HK8F.out.h3 (mv_info _ _ _ _ _ _ _ _ _) (mv_size _ _ _ _ _ _ _ _ _).symm (mv_one _ _ _ _ _ _ _ _ _) ?_))
                refine bodyPost_ret (results_cell3 Tryd.results40 _ _ (q + 2) 47 (MV F fs.length fc gs (some ⟨g2, 0, none⟩) n2 c2 0 ow1) (0, 0) _ rfl (Blk.setRow HK8F.out.h3 _) Tryd.underlying47 rfl (mv_info _ _ _ _ _ _ _ _ _)) rfl ?_
                rw [HSE.out]
                obtain ⟨x1, x2, x3⟩ := ComS.finish HK8F.out HT8F.out (fun b hb => (HBN.out b hb).1) (MV F fs.length fc gs (some ⟨g2, 0, none⟩) n2 c2 0 ow1)
                exact ⟨some ⟨g2, 0, none⟩, n2, c2, 0, ow1, told, rfl, x1, fun _ => ⟨rfl, B', d', z2, HZ2.out, HN2.out, x2, x3, (fun x hx => (HC6.out.own.lt x hx).1), (fun x hx => Nat.le_trans HC3.out.bel.size (HFR.out x hx)), by rw [if_pos ⟨HUD.out, HX.out⟩], by rw [if_neg (fun h => HY.out h.2)]⟩⟩
            · have x1 : (ho1 == (kg : Int) + 1) = false := by simpa using hx
              have HX := Lib.hid hx
              by_cases hy : ow1 = (kg : Int) + 1
              · have x2 : (ow1 == (kg : Int) + 1) = true := by simpa using hy
                have HY := Lib.hid hy
                clear hx hy
                go_upto_region 14 with (fail)
                have HK8F := Lib.hid ((ComS.field HC6.out 4 (.int .i64 0)))
                have HT8F := Lib.hid (thok_cell HT11.out ⟨q9, 4, none⟩ (.int .i64 0) (fun b hb => (HBN.out b hb).2))
                go_wp2_with (first | (refine wpList_load_row rfl 47 _ rfl (q9) rfl 47 (MV F fs.length fc gs (some ⟨g2, 0, none⟩) n2 c2 ho1 0) (0, 0) _ HK8F.out.h9 Tryd.underlying47 rfl (mv_info _ _ _ _ _ _ _ _ _) ?_) | (refine wpList_store_row rfl 47 _ _ rfl (q + 2) (MV F fs.length fc gs (some ⟨g2, 0, none⟩) n2 c2 ho1 0) rfl rfl 47 _ HK8F.out.h3 (mv_info _ _ _ _ _ _ _ _ _) (mv_size _ _ _ _ _ _ _ _ _).symm (mv_one _ _ _ _ _ _ _ _ _) ?_))
                refine bodyPost_ret (results_cell3 Tryd.results40 _ _ (q + 2) 47 (MV F fs.length fc gs (some ⟨g2, 0, none⟩) n2 c2 ho1 0) (0, 0) _ rfl (Blk.setRow HK8F.out.h3 _) Tryd.underlying47 rfl (mv_info _ _ _ _ _ _ _ _ _)) rfl ?_
                rw [HSE.out]
                obtain ⟨x1, x2, x3⟩ := ComS.finish HK8F.out HT8F.out (fun b hb => (HBN.out b hb).1) (MV F fs.length fc gs (some ⟨g2, 0, none⟩) n2 c2 ho1 0)
                exact ⟨some ⟨g2, 0, none⟩, n2, c2, ho1, 0, told, rfl, x1, fun _ => ⟨rfl, B', d', z2, HZ2.out, HN2.out, x2, x3, (fun x hx => (HC6.out.own.lt x hx).1), (fun x hx => Nat.le_trans HC3.out.bel.size (HFR.out x hx)), by rw [if_neg (fun h => HX.out h.2)], by rw [if_pos ⟨HUD.out, HY.out⟩]⟩⟩
              · have x2 : (ow1 == (kg : Int) + 1) = false := by simpa using hy
                have HY := Lib.hid hy
                clear hx hy
                go_upto_region 14 with (fail)
                have HK8F := Lib.hid (HC6.out)
                have HT8F := Lib.hid (HT11.out)
                go_wp2_with (first | (refine wpList_load_row rfl 47 _ rfl (q9) rfl 47 (MV F fs.length fc gs (some ⟨g2, 0, none⟩) n2 c2 ho1 ow1) (0, 0) _ HK8F.out.h9 Tryd.underlying47 rfl (mv_info _ _ _ _ _ _ _ _ _) ?_) | (refine wpList_store_row rfl 47 _ _ rfl (q + 2) (MV F fs.length fc gs (some ⟨g2, 0, none⟩) n2 c2 ho1 ow1) rfl rfl 47 _ HK8F.out.h3 (mv_info _ _ _ _ _ _ _ _ _) (mv_size _ _ _ _ _ _ _ _ _).symm (mv_one _ _ _ _ _ _ _ _ _) ?_))
                refine bodyPost_ret (results_cell3 Tryd.results40 _ _ (q + 2) 47 (MV F fs.length fc gs (some ⟨g2, 0, none⟩) n2 c2 ho1 ow1) (0, 0) _ rfl (Blk.setRow HK8F.out.h3 _) Tryd.underlying47 rfl (mv_info _ _ _ _ _ _ _ _ _)) rfl ?_
                rw [HSE.out]
                obtain ⟨x1, x2, x3⟩ := ComS.finish HK8F.out HT8F.out (fun b hb => (HBN.out b hb).1) (MV F fs.length fc gs (some ⟨g2, 0, none⟩) n2 c2 ho1 ow1)
                exact ⟨some ⟨g2, 0, none⟩, n2, c2, ho1, ow1, told, rfl, x1, fun _ => ⟨rfl, B', d', z2, HZ2.out, HN2.out, x2, x3, (fun x hx => (HC6.out.own.lt x hx).1), (fun x hx => Nat.le_trans HC3.out.bel.size (HFR.out x hx)), by rw [if_neg (fun h => HX.out h.2)], by rw [if_neg (fun h => HY.out h.2)]⟩⟩
        · go_wp2_with fail
          obtain ⟨v8, HV8⟩ : ∃ X, Hid (X = (v7.alloc (.cells #[.int .i64 0, .int .i64 0, .int .i64 0, .int .i64 0, .int .i64 0, .int .i64 0, .int .i64 0, .int .i64 0, .int .i64 0, .int .i64 0, .slice none 0 0, .bool false] 56)).drew) := ⟨_, Lib.hid rfl⟩
          obtain ⟨q5, HQ5⟩ : ∃ x, Hid (x = v7.heap.size) := ⟨_, Lib.hid rfl⟩
          have HBA := Lib.hid (show SB27 v7 v8 by rw [HV8.out]; exact ((Below.refl v7.heap.size v7).alloc (Nat.le_refl _) _).drew)
          have HKA := Lib.hid (show Blk v8 q5 56 #[.int .i64 0, .int .i64 0, .int .i64 0, .int .i64 0, .int .i64 0, .int .i64 0, .int .i64 0, .int .i64 0, .int .i64 0, .int .i64 0, .slice none 0 0, .bool false] by rw [HV8.out, HQ5.out]; exact (Blk.new v7 _ _).drew)
          have HL5 := Lib.hid (show v7.heap.size ≤ q5 by rw [HQ5.out]; exact Nat.le_refl _)
          rw [← HV8.out, ← HQ5.out]
          refine ⟨SB27 v7, HBA.out, fun _ h => h, ?_⟩
          (try simp only [Act.put, List.setIfInBounds_toArray, List.set_cons_zero, List.set_cons_succ]); refine tree_one ?_; simp only [pickOps, List.getElem?_toArray]; (repeat (first | go_big_quiet_skip | (go_big_quiet_want; first | (go_big_quiet_op; first | go_big_quiet_on | ((first | with_reducible refine ⟨_, fun _ _ => rfl, ?_⟩); go_big_quiet_on)) | (simp (contextual := true) [go_sem, HN]; with_reducible refine ⟨_, fun _ _ => rfl, ?_⟩; go_big_quiet_on)))); refine wpQuiet_nil ?_
          go_wp2_with (go_at_call 61; refine (HSTP.out _ HBA.out).mono ?_; rintro e v8b ⟨B', d', rfl, hth, hfr, hb⟩)
          have HB8 := Lib.hid (show SB27 v7 v8b from Below.trans HBA.out (hb.mono (Below.size HBA.out)))
          have HK8 := Lib.hid (HKA.out.below hb HKA.out.lt)
          have HT8 := Lib.hid hth
          have HFR := Lib.hid (show ∀ b, ob B' = some b → v7.heap.size ≤ b from fun b hb => Nat.le_trans (Below.size HBA.out) (hfr b hb))
          have HFQ := Lib.hid (show ∀ b, ob B' = some b → b ≠ q5 from fun b hb e => by
            have h1 := hfr b hb
            have h2 := HKA.out.lt
            omega)
          have HZ0 := Lib.hid (show (Tryd.prog.info? 56).map (·.size) = some (thArr u B' d').size by rw [thArr_size B' d' hth.regs]; exact Tryd.infoTh)
          have HZ12 := Lib.hid (show (12 : Nat) = (thArr u B' d').size from (thArr_size B' d' hth.regs).symm)
          clear hth hfr hb
          refine ⟨SB27 v7, HB8.out, fun _ h => h, ?_⟩
          (try simp only [Act.put, List.setIfInBounds_toArray, List.set_cons_zero, List.set_cons_succ]); refine tree_one ?_; simp only [pickOps, List.getElem?_toArray, List.getElem?_cons_zero, List.getElem?_cons_succ]; (repeat (first | go_big_quiet_skip | (go_big_quiet_want; first | (go_big_quiet_op; first | go_big_quiet_on | ((first | with_reducible refine ⟨_, fun _ _ => rfl, ?_⟩); go_big_quiet_on)) | (simp (contextual := true) [go_sem, HN]; with_reducible refine ⟨_, fun _ _ => rfl, ?_⟩; go_big_quiet_on)))); refine wpQuiet_nil ?_
          go_wp2_with (refine wpList_store_row rfl 56 _ _ rfl q5 (thArr u B' d') rfl rfl 56 _ HK8.out HZ0.out HZ12.out (thArr_one u B' d') ?_)
          obtain ⟨v9, HV9⟩ : ∃ X, Hid (X = v8b.setRow q5 (thArr u B' d')) := ⟨_, Lib.hid rfl⟩
          have HB9 := Lib.hid (show SB27 v7 v9 by rw [HV9.out]; exact below_setRow HB8.out HL5.out (Below.size HB8.out) _)
          have HK5 := Lib.hid (show Blk v9 q5 56 (thArr u B' d') by rw [HV9.out]; exact HK8.out.setRow _)
          have HT9 := Lib.hid (show ThOk v9 v9.heap.size u B' d' by
            rw [HV9.out]
            exact thok_mv HT8.out (((Mv.refl [q5] v8b).setRow q5 _ (by simp))) (fun _ b hb => by have := HFQ.out b hb; simpa using this))
          rw [← HV9.out]
          refine ⟨SB27 v7, HB9.out, fun _ h => h, ?_⟩
          (try simp only [Act.put]); refine tree_fin ?_; simp only [pickOps, List.getElem?_toArray, List.getElem?_cons_zero, List.getElem?_cons_succ]; (repeat (first | go_big_quiet_skip | (go_big_quiet_want; first | (go_big_quiet_op; first | go_big_quiet_on | ((first | with_reducible refine ⟨_, fun _ _ => rfl, ?_⟩); go_big_quiet_on)) | (simp (contextual := true) [go_sem, HN]; with_reducible refine ⟨_, fun _ _ => rfl, ?_⟩; go_big_quiet_on)))); refine wpQuiet_nil ?_
          clear HV9 HQ5 HT8 HB8 HZ0 HSTP HVD HK8 HFQ HBA HKA HV8
          have HC4 := Lib.hid (ComS.step HC3.out HB9.out)
          obtain ⟨g2, cur, rfl, hcb, hcs, hown2⟩ := own_thread HC4.out.own HN2.out HZ2.out u B' d' HT9.out.regs
          have HG2 := Lib.hid (show g2 < v7.heap.size from (HC3.out.own.lt g2 rfl).2)
          have hq7 := HC3.out.h3.lt
          have hq97 := HC3.out.h9.lt
          have HBN := Lib.hid (show ∀ b, ob B' = some b → b ≠ q + 2 ∧ b ≠ q9 from fun b hb => by have := HFR.out b hb; omega)
          have hkn2 : kg < n2 := by rw [HN2.out]; exact (List.getElem?_eq_some_iff.1 HZ2.out).1
          have HCB := Lib.hid hcb
          have HCS := Lib.hid hcs
          have HSZU := Lib.hid (show (Tryd.prog.info? 56).map (·.size) = some (thArr u B' d').size by rw [thArr_size B' d' HT9.out.regs]; exact Tryd.infoTh)
          obtain ⟨v10, HV10⟩ : ∃ X, Hid (X = v9.setRow g2 (splice cur (kg * 16) (thArr u B' d'))) := ⟨_, Lib.hid rfl⟩
          rw [← HV10.out] at hown2
          have HM10 := Lib.hid (show Mv (ob (some ⟨g2, 0, none⟩ : Option Addr)).toList v9 v10 by rw [HV10.out]; exact (Mv.refl _ _).setRow g2 _ (by simp [ob]))
          have HC5 := Lib.hid (ComS.row HC4.out HM10.out hown2 (.inl rfl))
          have HK10 := Lib.hid (HM10.out.blk HK5.out (by have h1 := HG2.out; have h2 := HL5.out; intro hc; have h3 : q5 = g2 := (by simpa [ob] using hc); omega))
          have HT10 := Lib.hid (thok_mv HT9.out HM10.out (fun _ b hb => by have h1 := HG2.out; have h2 := HFR.out b hb; intro hc; have h3 : b = g2 := (by simpa [ob] using hc); omega))
          have hk3 : kg < (rs2.set kg ⟨{ z2.x with th := u }, B', d'⟩).length := by rw [List.length_set]; exact (List.getElem?_eq_some_iff.1 HZ2.out).1
          obtain ⟨g3, hge, -, -, hcc, hfz, hset⟩ := own_pg HC5.out.own (by rw [List.length_set]; exact HN2.out) hk3
          obtain rfl : g2 = g3 := by injection hge with hge; injection hge with hge
          rw [List.getElem_set_self] at hcc hset
          have y15 := hcc 15 _ rfl
          have f15 := hfz 15
          obtain ⟨ho11, -⟩ := hset 15 (.bool false) ⟨{ z2.x with th := u, beg := false }, B', d'⟩ (by decide) rfl
          rw [List.set_set] at ho11
          obtain ⟨v11, HV11⟩ : ∃ X, Hid (X = v10.setCell ⟨g2, kg * 16 + 15, none⟩ (.bool false)) := ⟨_, Lib.hid rfl⟩
          rw [← HV11.out] at ho11
          have HM11 := Lib.hid (show Mv (ob (some ⟨g2, 0, none⟩ : Option Addr)).toList v10 v11 by rw [HV11.out]; exact (Mv.refl _ _).set _ _ (by simp [ob]))
          have HC6 := Lib.hid (ComS.row HC5.out HM11.out ho11 (.inl rfl))
          have HK11 := Lib.hid (HM11.out.blk HK10.out (by have h1 := HG2.out; have h2 := HL5.out; intro hc; have h3 : q5 = g2 := (by simpa [ob] using hc); omega))
          have HT11 := Lib.hid (thok_mv HT10.out HM11.out (fun _ b hb => by have h1 := HG2.out; have h2 := HFR.out b hb; intro hc; have h3 : b = g2 := (by simpa [ob] using hc); omega))
          have o29 := (mv_cells HC4.out.h9).2.2.1
          have o210 := (mv_cells HC5.out.h9).2.2.1
          obtain ⟨-, -, -, p3, p4⟩ := mv_cells HC6.out.h9
          have fp3 := HC6.out.h9.frozen 3
          have fp4 := HC6.out.h9.frozen 4
          have p4b := (mv_cells (F := F) (A := some ⟨g2, 0, none⟩) (ComS.field HC6.out 3 (.int .i64 0)).h9).2.2.2.2
          have d11 : v11.cell? ⟨q5, 11, none⟩ = some (.bool u.done) := (HK11.out.cell 11).trans (thArr_11 _ _ HT11.out.regs)
          have d11b : (v11.setCell ⟨q9, 3, none⟩ (.int .i64 0)).cell? ⟨q5, 11, none⟩ = some (.bool u.done) := ((HK11.out.far (p := ⟨q9, 3, none⟩) (by have h2 := HL5.out; show q5 ≠ q9; omega) _).cell 11).trans (thArr_11 _ _ HT11.out.regs)
          have hv10 := HV10.out
          clear hcb hcs hown2 hge hcc hfz hset ho11 hk3 hq7 hq97
          go_upto_region 9 with (first | (refine wpList_load_rowW (by rfl) 56 _ rfl q5 rfl 56 (thArr u B' d') (0, 0) _ HK5.out Tryd.underlying56 rfl HSZU.out ?_) | (refine wpList_store_sub rfl 56 _ _ rfl g2 (kg * 16) (thArr u B' d') rfl rfl 77 _ HCB.out HSZU.out HCS.out (thArr_one u B' d') ?_; rw [← hv10]; clear hv10))
          clear o29
          go_upto_region 10 with (fail)
          rw [← HV11.out]
          clear y15 f15 o210
          cases hud : u.done with
          | false =>
            rw [hud] at d11 d11b
            have HUD := Lib.hid hud
            clear hud
            go_upto_region 14 with (fail)
            have HK8F := Lib.hid (HC6.out)
            have HT8F := Lib.hid (HT11.out)
            go_wp2_with (first | (refine wpList_load_row rfl 47 _ rfl (q9) rfl 47 (MV F fs.length fc gs (some ⟨g2, 0, none⟩) n2 c2 ho1 ow1) (0, 0) _ HK8F.out.h9 Tryd.underlying47 rfl (mv_info _ _ _ _ _ _ _ _ _) ?_) | (refine wpList_store_row rfl 47 _ _ rfl (q + 2) (MV F fs.length fc gs (some ⟨g2, 0, none⟩) n2 c2 ho1 ow1) rfl rfl 47 _ HK8F.out.h3 (mv_info _ _ _ _ _ _ _ _ _) (mv_size _ _ _ _ _ _ _ _ _).symm (mv_one _ _ _ _ _ _ _ _ _) ?_))
            refine bodyPost_ret (results_cell3 Tryd.results40 _ _ (q + 2) 47 (MV F fs.length fc gs (some ⟨g2, 0, none⟩) n2 c2 ho1 ow1) (0, 0) _ rfl (Blk.setRow HK8F.out.h3 _) Tryd.underlying47 rfl (mv_info _ _ _ _ _ _ _ _ _)) rfl ?_
            rw [HSE.out]
            obtain ⟨x1, x2, x3⟩ := ComS.finish HK8F.out HT8F.out (fun b hb => (HBN.out b hb).1) (MV F fs.length fc gs (some ⟨g2, 0, none⟩) n2 c2 ho1 ow1)
            exact ⟨some ⟨g2, 0, none⟩, n2, c2, ho1, ow1, told, rfl, x1, fun _ => ⟨rfl, B', d', z2, HZ2.out, HN2.out, x2, x3, (fun x hx => (HC6.out.own.lt x hx).1), (fun x hx => Nat.le_trans HC3.out.bel.size (HFR.out x hx)), by rw [if_neg (fun h => by rw [HUD.out] at h; cases h.1)], by rw [if_neg (fun h => by rw [HUD.out] at h; cases h.1)]⟩⟩
          | true =>
            rw [hud] at d11 d11b
            have HUD := Lib.hid hud
            clear hud
            by_cases hx : ho1 = (kg : Int) + 1
            · have x1 : (ho1 == (kg : Int) + 1) = true := by simpa using hx
              have HX := Lib.hid hx
              by_cases hy : ow1 = (kg : Int) + 1
              · have x2 : (ow1 == (kg : Int) + 1) = true := by simpa using hy
                have HY := Lib.hid hy
                clear hx hy
                go_upto_region 14 with (fail)
                have HK8F := Lib.hid ((ComS.field (ComS.field HC6.out 3 (.int .i64 0)) 4 (.int .i64 0)))
                have HT8F := Lib.hid (thok_cell (thok_cell HT11.out ⟨q9, 3, none⟩ (.int .i64 0) (fun b hb => (HBN.out b hb).2)) ⟨q9, 4, none⟩ (.int .i64 0) (fun b hb => (HBN.out b hb).2))
                go_wp2_with (first | (refine wpList_load_row rfl 47 _ rfl (q9) rfl 47 (MV F fs.length fc gs (some ⟨g2, 0, none⟩) n2 c2 0 0) (0, 0) _ HK8F.out.h9 Tryd.underlying47 rfl (mv_info _ _ _ _ _ _ _ _ _) ?_) | (refine wpList_store_row rfl 47 _ _ rfl (q + 2) (MV F fs.length fc gs (some ⟨g2, 0, none⟩) n2 c2 0 0) rfl rfl 47 _ HK8F.out.h3 (mv_info _ _ _ _ _ _ _ _ _) (mv_size _ _ _ _ _ _ _ _ _).symm (mv_one _ _ _ _ _ _ _ _ _) ?_))
                refine bodyPost_ret (results_cell3 Tryd.results40 _ _ (q + 2) 47 (MV F fs.length fc gs (some ⟨g2, 0, none⟩) n2 c2 0 0) (0, 0) _ rfl (Blk.setRow HK8F.out.h3 _) Tryd.underlying47 rfl (mv_info _ _ _ _ _ _ _ _ _)) rfl ?_
                rw [HSE.out]
                obtain ⟨x1, x2, x3⟩ := ComS.finish HK8F.out HT8F.out (fun b hb => (HBN.out b hb).1) (MV F fs.length fc gs (some ⟨g2, 0, none⟩) n2 c2 0 0)
                exact ⟨some ⟨g2, 0, none⟩, n2, c2, 0, 0, told, rfl, x1, fun _ => ⟨rfl, B', d', z2, HZ2.out, HN2.out, x2, x3, (fun x hx => (HC6.out.own.lt x hx).1), (fun x hx => Nat.le_trans HC3.out.bel.size (HFR.out x hx)), by rw [if_pos ⟨HUD.out, HX.out⟩], by rw [if_pos ⟨HUD.out, HY.out⟩]⟩⟩
              · have x2 : (ow1 == (kg : Int) + 1) = false := by simpa using hy
                have HY := Lib.hid hy
                clear hx hy
                go_upto_region 14 with (fail)
                have HK8F := Lib.hid ((ComS.field HC6.out 3 (.int .i64 0)))
                have HT8F := Lib.hid (thok_cell HT11.out ⟨q9, 3, none⟩ (.int .i64 0) (fun b hb => (HBN.out b hb).2))
                go_wp2_with (first | (refine wpList_load_row rfl 47 _ rfl (q9) rfl 47 (MV F fs.length fc gs (some ⟨g2, 0, none⟩) n2 c2 0 ow1) (0, 0) _ HK8F.out.h9 Tryd.underlying47 rfl (mv_info _ _ _ _ _ _ _ _ _) ?_) | (refine wpList_store_row rfl 47 _ _ rfl (q + 2) (MV F fs.length fc gs (some ⟨g2, 0, none⟩) n2 c2 0 ow1) rfl rfl 47 _ HK8F.out.h3 (mv_info _ _ _ _ _ _ _ _ _) (mv_size _ _ _ _ _ _ _ _ _).symm (mv_one _ _ _ _ _ _ _ _ _) ?_))
                refine bodyPost_ret (results_cell3 Tryd.results40 _ _ (q + 2) 47 (MV F fs.length fc gs (some ⟨g2, 0, none⟩) n2 c2 0 ow1) (0, 0) _ rfl (Blk.setRow HK8F.out.h3 _) Tryd.underlying47 rfl (mv_info _ _ _ _ _ _ _ _ _)) rfl ?_
                rw [HSE.out]
                obtain ⟨x1, x2, x3⟩ := ComS.finish HK8F.out HT8F.out (fun b hb => (HBN.out b hb).1) (MV F fs.length fc gs (some ⟨g2, 0, none⟩) n2 c2 0 ow1)
                exact ⟨some ⟨g2, 0, none⟩, n2, c2, 0, ow1, told, rfl, x1, fun _ => ⟨rfl, B', d', z2, HZ2.out, HN2.out, x2, x3, (fun x hx => (HC6.out.own.lt x hx).1), (fun x hx => Nat.le_trans HC3.out.bel.size (HFR.out x hx)), by rw [if_pos ⟨HUD.out, HX.out⟩], by rw [if_neg (fun h => HY.out h.2)]⟩⟩
            · have x1 : (ho1 == (kg : Int) + 1) = false := by simpa using hx
              have HX := Lib.hid hx
              by_cases hy : ow1 = (kg : Int) + 1
              · have x2 : (ow1 == (kg : Int) + 1) = true := by simpa using hy
                have HY := Lib.hid hy
                clear hx hy
                go_upto_region 14 with (fail)
                have HK8F := Lib.hid ((ComS.field HC6.out 4 (.int .i64 0)))
                have HT8F := Lib.hid (thok_cell HT11.out ⟨q9, 4, none⟩ (.int .i64 0) (fun b hb => (HBN.out b hb).2))
                go_wp2_with (first | (refine wpList_load_row rfl 47 _ rfl (q9) rfl 47 (MV F fs.length fc gs (some ⟨g2, 0, none⟩) n2 c2 ho1 0) (0, 0) _ HK8F.out.h9 Tryd.underlying47 rfl (mv_info _ _ _ _ _ _ _ _ _) ?_) | (refine wpList_store_row rfl 47 _ _ rfl (q + 2) (MV F fs.length fc gs (some ⟨g2, 0, none⟩) n2 c2 ho1 0) rfl rfl 47 _ HK8F.out.h3 (mv_info _ _ _ _ _ _ _ _ _) (mv_size _ _ _ _ _ _ _ _ _).symm (mv_one _ _ _ _ _ _ _ _ _) ?_))
                refine bodyPost_ret (results_cell3 Tryd.results40 _ _ (q + 2) 47 (MV F fs.length fc gs (some ⟨g2, 0, none⟩) n2 c2 ho1 0) (0, 0) _ rfl (Blk.setRow HK8F.out.h3 _) Tryd.underlying47 rfl (mv_info _ _ _ _ _ _ _ _ _)) rfl ?_
                rw [HSE.out]
                obtain ⟨x1, x2, x3⟩ := ComS.finish HK8F.out HT8F.out (fun b hb => (HBN.out b hb).1) (MV F fs.length fc gs (some ⟨g2, 0, none⟩) n2 c2 ho1 0)
                exact ⟨some ⟨g2, 0, none⟩, n2, c2, ho1, 0, told, rfl, x1, fun _ => ⟨rfl, B', d', z2, HZ2.out, HN2.out, x2, x3, (fun x hx => (HC6.out.own.lt x hx).1), (fun x hx => Nat.le_trans HC3.out.bel.size (HFR.out x hx)), by rw [if_neg (fun h => HX.out h.2)], by rw [if_pos ⟨HUD.out, HY.out⟩]⟩⟩
              · have x2 : (ow1 == (kg : Int) + 1) = false := by simpa using hy
                have HY := Lib.hid hy
                clear hx hy
                go_upto_region 14 with (fail)
                have HK8F := Lib.hid (HC6.out)
                have HT8F := Lib.hid (HT11.out)
                go_wp2_with (first | (refine wpList_load_row rfl 47 _ rfl (q9) rfl 47 (MV F fs.length fc gs (some ⟨g2, 0, none⟩) n2 c2 ho1 ow1) (0, 0) _ HK8F.out.h9 Tryd.underlying47 rfl (mv_info _ _ _ _ _ _ _ _ _) ?_) | (refine wpList_store_row rfl 47 _ _ rfl (q + 2) (MV F fs.length fc gs (some ⟨g2, 0, none⟩) n2 c2 ho1 ow1) rfl rfl 47 _ HK8F.out.h3 (mv_info _ _ _ _ _ _ _ _ _) (mv_size _ _ _ _ _ _ _ _ _).symm (mv_one _ _ _ _ _ _ _ _ _) ?_))
                refine bodyPost_ret (results_cell3 Tryd.results40 _ _ (q + 2) 47 (MV F fs.length fc gs (some ⟨g2, 0, none⟩) n2 c2 ho1 ow1) (0, 0) _ rfl (Blk.setRow HK8F.out.h3 _) Tryd.underlying47 rfl (mv_info _ _ _ _ _ _ _ _ _)) rfl ?_
                rw [HSE.out]
                obtain ⟨x1, x2, x3⟩ := ComS.finish HK8F.out HT8F.out (fun b hb => (HBN.out b hb).1) (MV F fs.length fc gs (some ⟨g2, 0, none⟩) n2 c2 ho1 ow1)
                exact ⟨some ⟨g2, 0, none⟩, n2, c2, ho1, ow1, told, rfl, x1, fun _ => ⟨rfl, B', d', z2, HZ2.out, HN2.out, x2, x3, (fun x hx => (HC6.out.own.lt x hx).1), (fun x hx => Nat.le_trans HC3.out.bel.size (HFR.out x hx)), by rw [if_neg (fun h => HX.out h.2)], by rw [if_neg (fun h => HY.out h.2)]⟩⟩
end Go.Proofs.YtkfpnppppmccdaaDoor

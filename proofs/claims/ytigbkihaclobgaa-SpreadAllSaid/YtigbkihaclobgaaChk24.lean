/-
  spread.Check of the plan of a world says true. Conditions: the plan lies in memory.
-/
import Derived.Test.YtigbkihaclobgaaSlc24
import Derived.Test.YtigbkihaclobgaaSeti
import Derived.Test.YtigbkihaclobgaaBits
namespace Go.Proofs.Ytigbkihaclobgaa
open Go.RowKit
/-- What a plan of the first k processors is. -/
structure PlanOk (zs : List Int) (sf ms : Int) (k : Nat) (gl il : List Int) : Prop where
  g : ∀ x ∈ gl, 0 ≤ x ∧ x < k ∧ x ≠ sf ∧ 0 < zs.getD x.toNat 0
  i : ∀ x ∈ il, 0 ≤ x ∧ x < k ∧ x ≠ sf ∧ (0 < zs.getD x.toNat 0 → ms ≤ gl.length)
  gs : gl.Pairwise (· < ·)
  is : il.Pairwise (· < ·)
  nd : ∀ x ∈ gl, x ∉ il
  len : gl.length + il.length + (if 0 ≤ sf ∧ sf < k then 1 else 0) = k
theorem pair_snoc {l : List Int} {k : Int} (h : l.Pairwise (· < ·)) (hl : ∀ x ∈ l, x < k) : (l ++ [k]).Pairwise (· < ·) := by
  rw [List.pairwise_append]
  exact ⟨h, by simp, fun a ha b hb => by simp at hb; subst hb; exact hl a ha⟩
theorem plan_ok (zs : List Int) (self ms : Int) : ∀ k, PlanOk zs self ms k (planL zs self ms k).1 (planL zs self ms k).2
  | 0 => ⟨by simp [planL], by simp [planL], by simp [planL], by simp [planL], by simp [planL], by simp [planL]⟩
  | k + 1 => by
    obtain ⟨hg, hi, hgs, his, hnd, hlen⟩ := plan_ok zs self ms k
    unfold planL
    generalize planL zs self ms k = pl at *
    obtain ⟨gl, il⟩ := pl
    simp only at hg hi hgs his hnd hlen
    split
    · rename_i he
      refine ⟨fun x hx => ?_, fun x hx => ?_, hgs, his, hnd, ?_⟩
      · obtain ⟨a, b, c, d⟩ := hg x hx; exact ⟨a, by omega, c, d⟩
      · obtain ⟨a, b, c, d⟩ := hi x hx; exact ⟨a, by omega, c, d⟩
      · rw [if_neg (by omega)] at hlen; rw [if_pos (by omega)]; simp only; omega
    · rename_i he
      have h2 : (if 0 ≤ self ∧ self < ((k + 1 : Nat) : Int) then 1 else 0) = (if 0 ≤ self ∧ self < (k : Int) then 1 else 0) := by
        by_cases h : 0 ≤ self ∧ self < (k : Int)
        · rw [if_pos h, if_pos (by omega)]
        · rw [if_neg h, if_neg (by omega)]
      split
      · rename_i hz
        refine ⟨fun x hx => ?_, fun x hx => ?_, pair_snoc hgs (fun x hx => (hg x hx).2.1), his, fun x hx => ?_, ?_⟩
        · simp only [List.mem_append, List.mem_singleton] at hx
          rcases hx with hx | rfl
          · obtain ⟨a, b, c, d⟩ := hg x hx; exact ⟨a, by omega, c, d⟩
          · exact ⟨by omega, by omega, he, by simpa using hz.1⟩
        · obtain ⟨a, b, c, d⟩ := hi x hx; exact ⟨a, by omega, c, fun h => by have := d h; simp; omega⟩
        · simp only [List.mem_append, List.mem_singleton] at hx
          rcases hx with hx | rfl
          · exact hnd x hx
          · intro hx; have := (hi _ hx).2.1; omega
        · rw [h2]; simp; omega
      · rename_i hz
        refine ⟨fun x hx => ?_, fun x hx => ?_, hgs, pair_snoc his (fun x hx => (hi x hx).2.1), fun x hx => ?_, ?_⟩
        · obtain ⟨a, b, c, d⟩ := hg x hx; exact ⟨a, by omega, c, d⟩
        · simp only [List.mem_append, List.mem_singleton] at hx
          rcases hx with hx | rfl
          · obtain ⟨a, b, c, d⟩ := hi x hx; exact ⟨a, by omega, c, d⟩
          · refine ⟨by omega, by omega, he, fun h => ?_⟩
            have h' : 0 < zs.getD k 0 := by simpa using h
            have : ¬ ((gl.length : Int) < ms) := fun h3 => hz ⟨h', h3⟩
            show ms ≤ (gl.length : Int)
            omega
        · simp only [List.mem_append, List.mem_singleton, not_or]
          exact ⟨hnd x hx, by have := (hg x hx).2.1; omega⟩
        · rw [h2]; simp; omega

/-- What is still wanted: those below n but self, and but the first k of l. -/
def wantP (n : Nat) (self : Int) (l : List Int) (k : Nat) (i : Int) : Bool := decide (0 ≤ i) && decide (i < n) && !decide (i = self) && !decide (i ∈ l.take k)
theorem want_get {n : Nat} {self : Int} {l : List Int} (hl : ∀ x ∈ l, 0 ≤ x ∧ x < n ∧ x ≠ self) (hnd : l.Nodup) {k : Nat} (hk : k < l.length) : wantP n self l k l[k] = true := by
  obtain ⟨h1, h2, h3⟩ := hl _ (List.getElem_mem hk)
  have h4 : l[k] ∉ l.take k := by
    intro h
    obtain ⟨j, hj, e⟩ := List.mem_iff_getElem.1 h
    simp only [List.length_take] at hj
    rw [List.getElem_take] at e
    have := (List.getElem_inj hnd).1 e
    omega
  unfold wantP
  simp [h1, h2, h3, h4]
theorem want_succ {n : Nat} {self : Int} {l : List Int} {k : Nat} (hk : k < l.length) : subI (wantP n self l k) l[k] = wantP n self l (k + 1) := by
  funext i
  unfold subI wantP
  rw [List.take_succ_eq_append_getElem hk]
  by_cases h : i = l[k]
  · have h2 : l[k] ∈ l.take k ++ [l[k]] := List.mem_append_right _ (List.mem_singleton.2 rfl)
    rw [if_pos h, h, decide_eq_true h2]; simp only [Bool.not_true, Bool.and_false]
  · rw [if_neg h]
    simp only [List.mem_append, List.mem_singleton, h, or_false]
theorem nodup_of {gl il : List Int} (h1 : gl.Pairwise (· < ·)) (h2 : il.Pairwise (· < ·)) (h3 : ∀ x ∈ gl, x ∉ il) : (gl ++ il).Nodup := by
  rw [List.nodup_append]
  exact ⟨h1.imp (fun h => by omega), h2.imp (fun h => by omega), fun a ha b hb e => h3 a ha (e ▸ hb)⟩
def fillP (k : Nat) (i : Int) : Bool := decide (0 ≤ i) && decide (i < k)
theorem fill_succ (k : Nat) : addI (fillP k) (k : Int) = fillP (k + 1) := by
  funext i
  unfold addI fillP
  by_cases h : i = (k : Int)
  · rw [if_pos h]; subst h; simp; omega
  · rw [if_neg h]
    have : decide (i < (k : Int)) = decide (i < ((k + 1 : Nat) : Int)) := by
      rw [decide_eq_decide]; omega
    rw [this]
theorem fill_not (k : Nat) : fillP k (k : Int) = false := by unfold fillP; simp
theorem fill_sub (n : Nat) (self : Int) (l : List Int) : subI (fillP n) self = wantP n self l 0 := by
  funext i
  unfold subI fillP wantP
  by_cases h : i = self
  · rw [if_pos h]; simp [h]
  · rw [if_neg h]; simp [h]
theorem fill_self (n : Nat) (self : Int) : fillP n self = decide (0 ≤ self ∧ self < n) := by unfold fillP; simp
theorem Try.zero3 (w : World) : (zeroValue 3).run Try.prog w = .ok (.int .i64 0) w := by kernel_rfl
theorem lit_one : (Lit.int .i64 1).wf = true := by decide
theorem lit_wf {x : Int} (h : I64 x) : (Lit.int .i64 x).wf = true := by
  unfold I64 at h
  simp [Lit.wf, IntKind.min, IntKind.max, IntKind.signed, IntKind.bits]; omega
/-- rises says true of a row that rises. -/
theorem rises_any (A : Option Addr) (n c : Nat) (zs : List Int) (w : World) (hn : zs.length = n) (hm : n ≤ 65536) (hs : zs.Pairwise (· < ·)) (hr : Row w w.heap.size A (ints zs)) :
    Calls Try.prog 9 #[.slice A n c] w fun e w' => e = .returned (.bool true) ∧ Below w.heap.size w w' := by
  have HN := Lib.hid hn
  have HS := Lib.hid hs
  have HR := Lib.hid hr
  have c1 : Hid (n ≤ maxLen) := by unfold maxLen; show _ ≤ _; omega
  clear hn hs hr
  go_enter Try.func9, Try.ntmps9
  go_wp2_with fail
  refine (isSorted_any A n c zs w HN.out c1.out HS.out HR.out).mono ?_
  rintro e w1 ⟨rfl, hb1⟩
  have HB1 := Lib.hid hb1
  clear hb1
  go_wp2_with fail
  refine (cloneI_any A n c zs w1 HN.out hm (HR.out.step HB1.out)).mono ?_
  rintro e w2 ⟨X, cx, rfl, ho, hb2⟩
  have HB2 := Lib.hid (HB1.out.trans (hb2.mono HB1.out.size))
  have HO := Lib.hid ho
  clear hb2 ho
  go_wp2_with fail
  refine (compact_any X n cx zs w2 HN.out c1.out HS.out HO.out.row).mono ?_
  rintro e w3 ⟨rfl, hb3⟩
  have HB3 := Lib.hid (HB2.out.trans (hb3.mono HB2.out.size))
  clear hb3
  go_wp2_with fail
  go_ret
  exact ⟨rfl, HB3.out⟩
theorem grownB {a b : World} (h : Below a.heap.size a b) (r : Option Nat) : a.grownBy b r := ⟨h.os, h.tape, h.output, h.size, fun i hi _ => h.block i hi⟩
theorem two_cells {w : World} {g : Nat} {t : TypeId} {x y : Value} (h : Blk w g t #[x, y]) : w.cell? ⟨g, 0, none⟩ = some x ∧ w.cell? ⟨g, 1, none⟩ = some y := by
  have q0 := h.cell 0
  have q1 := h.cell 1
  simp only [List.getElem?_toArray, List.getElem?_cons_zero, List.getElem?_cons_succ] at q0 q1
  exact ⟨q0, q1⟩
set_option maxHeartbeats 4000000 in
theorem check_any (A B : Option Addr) (n c d : Nat) (gl il : List Int) (zs : List Int) (self ms : Int) (w : World) (hP : PlanOk zs self ms n gl il) (hn : n ≤ 300) (hself : I64 self) (ha : Row w w.heap.size A (ints gl)) (hb : Row w w.heap.size B (ints il)) :
    Calls Try.prog 6 #[.agg #[.slice A gl.length c, .slice B il.length d], .int .i64 n, .int .i64 self] w fun e w' => e = .returned (.bool true) ∧ Below w.heap.size w w' := by
  obtain ⟨hg1, hi1, hg2, hi2, hnd, hlen⟩ := hP
  have hgn : gl.length ≤ 300 := by omega
  have hin : il.length ≤ 300 := by omega
  have HA := Lib.hid ha
  have HB := Lib.hid hb
  have HG2 := Lib.hid hg2
  have HI2 := Lib.hid hi2
  have HSF := Lib.hid hself
  have HND := Lib.hid (nodup_of hg2 hi2 hnd)
  have HM := Lib.hid (show ∀ x ∈ gl ++ il, 0 ≤ x ∧ x < n ∧ x ≠ self from fun x hx => by
    rcases List.mem_append.1 hx with h | h
    · exact ⟨(hg1 x h).1, (hg1 x h).2.1, (hg1 x h).2.2.1⟩
    · exact ⟨(hi1 x h).1, (hi1 x h).2.1, (hi1 x h).2.2.1⟩)
  have HLEN := Lib.hid hlen
  clear ha hb hg1 hi1 hg2 hi2 hnd hlen hself
  have hmm := @run_makeMap Try.prog
  have hgz : ∃ gn : Nat, Hid (gn = gl.length) := ⟨_, rfl⟩
  obtain ⟨gn, HGN⟩ := hgz
  have hiz : ∃ inn : Nat, Hid (inn = il.length) := ⟨_, rfl⟩
  obtain ⟨inn, HIN⟩ := hiz
  have hgn' : gn ≤ 300 := by rw [HGN.out]; exact hgn
  have hin' : inn ≤ 300 := by rw [HIN.out]; exact hin
  rw [← HGN.out, ← HIN.out]
  clear hgn hin
  have HBP := Lib.hid (Blk.new w 25 #[.slice A gn c, .slice B inn d])
  have HB0 := Lib.hid (show Below w.heap.size w (w.alloc (.cells #[.slice A gn c, .slice B inn d] 25)) from (Below.refl _ _).alloc (Nat.le_refl _) _)
  have hw0 : ∃ w0 : World, Hid (w0 = w.alloc (.cells #[.slice A gn c, .slice B inn d] 25)) := ⟨_, rfl⟩
  obtain ⟨w0, HW0⟩ := hw0
  rw [← HW0.out] at HBP HB0
  have q0 := HBP.out.cell 0
  have q1 := HBP.out.cell 1
  simp only [List.getElem?_toArray, List.getElem?_cons_zero, List.getElem?_cons_succ] at q0 q1
  go_enter Try.func6, Try.ntmps6
  go_wp2_with fail
  rw [← HW0.out]
  go_wp2_with fail
  refine (rises_any A gn c gl w0 HGN.out.symm (by omega) HG2.out (HA.out.step HB0.out)).mono ?_
  rintro e w1 ⟨rfl, hb1⟩
  have HB1 := Lib.hid (HB0.out.trans (hb1.mono HB0.out.size))
  have HBP1 := Lib.hid (HBP.out.below hb1 HBP.out.lt)
  clear q0 q1 hb1
  have q0 := HBP1.out.cell 0
  have q1 := HBP1.out.cell 1
  simp only [List.getElem?_toArray, List.getElem?_cons_zero, List.getElem?_cons_succ] at q0 q1
  go_wp2_with fail
  refine (rises_any B inn d il w1 HIN.out.symm (by omega) HI2.out (HB.out.step HB1.out)).mono ?_
  rintro e w2 ⟨rfl, hb2⟩
  have HB2 := Lib.hid (HB1.out.trans (hb2.mono HB1.out.size))
  have HBP2 := Lib.hid (HBP1.out.below hb2 HBP1.out.lt)
  clear q0 q1 hb2
  have hmax : max (n : Int) 0 = (n : Int) := by omega
  go_wp2_with fail
  have HS0 := Lib.hid (SetIs.made (P := Try.prog) (T := 3) w2)
  have HB3 := Lib.hid (HB2.out.alloc HB2.out.size (.map #[] 0))
  have HBP3 := Lib.hid (HBP2.out.alloc (.map #[] 0))
  have hgm : ∃ gm : Nat, Hid (gm = w2.heap.size) := ⟨_, rfl⟩
  obtain ⟨gm, HGM⟩ := hgm
  have HGL := Lib.hid (show w.heap.size < gm by rw [HGM.out]; exact HBP2.out.lt)
  have hw3 : ∃ w3 : World, Hid (w3 = w2.alloc (.map #[] 0)) := ⟨_, rfl⟩
  obtain ⟨w3, HW3⟩ := hw3
  rw [← HGM.out] at HS0 ⊢
  rw [← HW3.out] at HS0 HB3 HBP3 ⊢
  go_loopw [27] (fun vi wr => ∃ k : Nat, k ≤ n ∧ vi = .int .i64 k ∧ Hid (Below w.heap.size w wr ∧ Blk wr w.heap.size 25 #[.slice A gn c, .slice B inn d] ∧ SetIs Try.prog 3 wr gm k (fillP k) k)) (fun vi _ => n - (intOf vi).toNat)
  case atStart => exact ⟨0, by omega, rfl, Lib.hid ⟨HB3.out, HBP3.out, by have h : fillP 0 = fun _ => false := (by funext i; unfold fillP; simp); rw [h]; exact HS0.out⟩⟩
  case round =>
    obtain ⟨k, hk, rfl, HI⟩ := hrel
    by_cases hlt : k < n
    · obtain ⟨D, hD1, hD2, hD3⟩ := HI.out.2.2
      have HD1 := Lib.hid hD1
      have HPF := Lib.hid (put_facts (i := (k : Int)) (hD1.tidy (Maps.int_keyed Try.underlying3)) hD2 hD3)
      have c3 : Hid (k < maxLen) := by unfold maxLen; show _ < _; omega
      have HKW := Lib.hid (lit_wf (x := (k : Int)) ⟨by omega, by omega⟩)
      clear hD1 hD2 hD3
      go_wp2_with (at_mapUpdate; refine wpList_mapUpdate_own _ rfl _ _ _ 34 rfl 3 3 (Maps.int_keyed Try.underlying3) Try.underlying34 _ gm k D rfl HD1.out c3.out _ _ _ rfl rfl (Maps.keyOf_int_mk Try.underlying3 HKW.out) _ [] (plainElem_int Try.underlying3 lit_one) ?_; intro w4 hown4 hgrow4)
      go_roundw
      case rel =>
        refine ⟨k + 1, by omega, by go_num, Lib.hid ⟨?_, ?_, ?_⟩⟩
        · exact HI.out.1.grown hgrow4 HI.out.1.size (by intro j hj; injection hj with hj; have := HGL.out; omega)
        · exact HI.out.2.1.grown hgrow4 (by intro e; injection e with e; have := HGL.out; omega)
        · refine ⟨_, hown4, ?_, ?_⟩
          · rw [← fill_succ]; exact HPF.out.1
          · have := HPF.out.2
            rw [fill_not] at this
            simpa using this
      case measure => simp [intOf]; omega
    · obtain rfl : k = n := by omega
      obtain ⟨D, hD1, hD2, hD3⟩ := HI.out.2.2
      have HD1 := Lib.hid hD1
      have HPF := Lib.hid (del_facts (i := self) (hD1.tidy (Maps.int_keyed Try.underlying3)) hD2 hD3)
      have HKW := Lib.hid (lit_wf HSF.out)
      have HBW := Lib.hid HI.out.1
      have HPW := Lib.hid HI.out.2.1
      clear hD1 hD2 hD3 HI HS0
      have q0 := HPW.out.cell 0
      have q1 := HPW.out.cell 1
      simp only [List.getElem?_toArray, List.getElem?_cons_zero, List.getElem?_cons_succ] at q0 q1
      go_wp2_with (at_delete; refine wpList_delete_own _ rfl _ _ 34 3 rfl 3 (Maps.int_keyed Try.underlying3) Try.underlying34 _ gm k D rfl HD1.out _ _ rfl (Maps.keyOf_int_mk Try.underlying3 HKW.out) ?_; intro w4 hown4 hturn4; obtain ⟨p0, p1⟩ := two_cells (HPW.out.grown hturn4.grown (by intro e; injection e with e; have := HGL.out; omega)))
      have HBW4 := Lib.hid (show Below w.heap.size w w4 from HBW.out.grown hturn4.grown HBW.out.size (by intro j hj; injection hj with hj; have := HGL.out; omega))
      have HPW4 := Lib.hid (show Blk w4 w.heap.size 25 #[.slice A gn c, .slice B inn d] from HPW.out.grown hturn4.grown (by intro e; injection e with e; have := HGL.out; omega))
      have HL4 := Lib.hid (show gl.length + il.length + 0 = if 0 ≤ self ∧ self < (k : Int) then k - 1 else k by
        have := HLEN.out
        split at this <;> simp_all <;> omega)
      have HC4 := Lib.hid (show gn + inn + (if fillP k self = true then 1 else 0) = k by
        have := HLEN.out
        rw [fill_self, HGN.out, HIN.out]
        simpa using this)
      have HOWN4 := Lib.hid hown4
      clear hown4 hturn4 q0 q1
      have hgb : ∃ gb : Nat, Hid (gb = w4.heap.size) := ⟨_, rfl⟩
      obtain ⟨gb, HGB⟩ := hgb
      have hw5 : ∃ w5 : World, Hid (w5 = w4.alloc (.cells #[.slice A gn c, .slice B inn d] 22)) := ⟨_, rfl⟩
      obtain ⟨w5, HW5⟩ := hw5
      rw [← HGB.out]
      rw [← HW5.out]
      have HB5 := Lib.hid (show Below w.heap.size w w5 by rw [HW5.out]; exact HBW4.out.alloc HBW4.out.size _)
      have HG5 := Lib.hid (show Blk w5 gb 22 #[.slice A gn c, .slice B inn d] by rw [HW5.out, HGB.out]; exact Blk.new _ _ _)
      have HM5 := Lib.hid (show w5.ownsMap Try.prog 3 (plainElem Try.prog 3) gm k _ by rw [HW5.out]; exact World.ownsMap.alloc HOWN4.out _)
      refine (concat_any A B gn inn c d gb gl il w5 HG5.out HGN.out.symm HIN.out.symm (by omega) (by omega) (HA.out.step HB5.out) (HB.out.step HB5.out)).mono ?_
      rintro e w6 ⟨X, cx, rfl, hrX, hb6⟩
      have HB6 := Lib.hid (HB5.out.trans (hb6.mono HB5.out.size))
      have HM6 := Lib.hid (HM5.out.kept (grownB hb6 none) (by simp))
      have HX6 := Lib.hid hrX
      have HGS := Lib.hid (show gm < w5.heap.size from HM5.out.lt)
      have HWF := Lib.hid (show SetIs Try.prog 3 w6 gm k (wantP k self (gl ++ il) 0) (gn + inn) by
        refine ⟨_, HM6.out, ?_, ?_⟩
        · rw [← fill_sub]; exact HPF.out.1
        · have h1 := HPF.out.2
          have h2 := HC4.out
          omega)
      have hL : ∃ L : List Int, Hid (L = gl ++ il) := ⟨_, rfl⟩
      obtain ⟨L, HL⟩ := hL
      have HLL := Lib.hid (show L.length = gn + inn by rw [HL.out, List.length_append, HGN.out, HIN.out])
      rw [← HL.out] at HX6 HWF HM HND
      have hbs : ∃ bs : Nat, Hid (bs = w5.heap.size) := ⟨_, rfl⟩
      obtain ⟨bs, HBS⟩ := hbs
      rw [← HBS.out] at HX6 HGS
      clear hrX hb6 HM5 HM6 p0 p1
      have ht : ∃ t : Nat, Hid (t = gn + inn) ∧ t ≤ 600 := ⟨_, Lib.hid rfl, by omega⟩
      obtain ⟨t, HT, ht⟩ := ht
      rw [← HT.out] at HX6 HWF HLL
      rw [← HT.out]
      go_wp2_with fail
      go_loopw [42] (fun vi wr => ∃ j : Nat, j ≤ t ∧ vi = .int .i64 j ∧ Hid (Below w.heap.size w wr ∧ Own wr bs 3 1 X t cx (ints L) ∧ SetIs Try.prog 3 wr gm k (wantP k self L j) (t - j))) (fun vi _ => t - (intOf vi).toNat)
      case atStart => exact ⟨0, by omega, rfl, Lib.hid ⟨HB6.out, HX6.out, HWF.out⟩⟩
      case round =>
        rename_i wq
        obtain ⟨j, hj, rfl, HI⟩ := hrel
        clear HWF HX6
        obtain ⟨D2, hD1, hD2, hD3⟩ := HI.out.2.2
        by_cases hjt : j < t
        · have hjl : j < L.length := by rw [HLL.out]; exact hjt
          obtain ⟨b, off, rfl, hbl, hcx⟩ := HI.out.2.1.row.at_ (k := j) (by simp [ints]; exact hjl)
          have hc0 := hcx j _ (ints_at_ L j hjl)
          have hwant := want_get HM.out HND.out hjl
          have hsub := want_succ (n := k) (self := self) hjl
          have hmem := HM.out _ (List.getElem_mem hjl)
          generalize L[j] = x at *
          have hlk : D2.atKey (.int .i64 x) (.lit (.int .i64 0)) = .lit (.int .i64 1) := by
            have := (hD2 x).2
            rw [hwant] at this
            simpa using this
          have HLK := Lib.hid hlk
          have HKW2 := Lib.hid (lit_wf (x := x) ⟨by omega, by omega⟩)
          have HDF := Lib.hid (del_facts (i := x) (hD1.tidy (Maps.int_keyed Try.underlying3)) hD2 hD3)
          have HDW := Lib.hid hwant
          have HSB := Lib.hid hsub
          have HD2 := Lib.hid hD1
          clear hD1 hD2 hD3 hcx hwant hsub hmem hlk
          go_wp2_with (first | (at_lookup; refine wpList_lookup_own_int _ rfl _ _ 34 rfl 3 3 .i64 (Maps.int_keyed Try.underlying3) Try.underlying34 Try.underlying3 (Try.zero3 _) gm k D2 rfl HD2.out _ _ rfl (Maps.keyOf_int_mk Try.underlying3 HKW2.out) ?_; intro cc hat hwc; obtain rfl : cc = 1 := by (rw [HLK.out] at hat; injection hat with hat; injection hat with hat1 hat2; exact hat2.symm)) | (at_delete; refine wpList_delete_own _ rfl _ _ 34 3 rfl 3 (Maps.int_keyed Try.underlying3) Try.underlying34 _ gm k D2 rfl HD2.out _ _ rfl (Maps.keyOf_int_mk Try.underlying3 HKW2.out) ?_; intro w7 hown7 hturn7))
          go_roundw
          case rel =>
            refine ⟨j + 1, by omega, by go_num, Lib.hid ⟨?_, ?_, ?_⟩⟩
            · exact HI.out.1.grown hturn7.grown HI.out.1.size (by intro i hi; injection hi with hi; have := HGL.out; omega)
            · exact HI.out.2.1.kept hturn7.grown (.inr (HI.out.2.1.ne_lt HGS.out |>.resolve_left (by simp [ob])))
            · refine ⟨_, hown7, ?_, ?_⟩
              · rw [← HSB.out]; exact HDF.out.1
              · have h1 := HDF.out.2
                rw [HDW.out] at h1
                simp only [if_true] at h1
                omega
          case measure => simp [intOf]; omega
        · obtain rfl : j = t := by omega
          have HS2 := Lib.hid hD3
          have HD2 := Lib.hid hD1
          have hz : Maps.size D2 = 0 := by omega
          clear hD1 hD2 hD3
          go_wp2_with (at_len; refine wpList_len_own _ rfl _ 34 rfl 3 3 Try.underlying34 _ gm k D2 rfl HD2.out ?_)
          go_ret
          exact ⟨rfl, HI.out.1⟩
end Go.Proofs.Ytigbkihaclobgaa

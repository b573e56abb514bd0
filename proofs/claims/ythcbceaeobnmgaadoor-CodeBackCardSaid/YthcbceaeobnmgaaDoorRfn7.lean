/-
  Chapter 7: contract of the reader's fn. Condition: the reader and its bytes lie in memory.
-/
import Derived.Test.YthcbceaeobnmgaaDoorRic7
import Derived.Test.YthcbceaeobnmgaaDoorBm10
import Derived.Test.YthcbceaeobnmgaaDoorCln7
namespace Go.Proofs.YthcbceaeobnmgaaDoor
open Go.RowKit
/-- What is read in the region that appends. -/
def S1c (gF : Nat) (v : Value) (w' : World) : Prop := w'.cell? ⟨gF, 0, none⟩ = some v
theorem numI_i64 (l : List Nat) : I64 (numI l) := by
  unfold numI I64
  rw [IntKind.wrap_i64]
  omega
theorem insR_ok {l : List Nat} (hb : ∀ x ∈ l, x < 256) (p : Nat) : InsOk (insR l p) := by
  have hg : ∀ q, I64 ((l.getD q 0 : Nat) : Int) := fun q => by
    have : l.getD q 0 < 256 := by
      by_cases h : q < l.length
      · have : l.getD q 0 = l[q] := by simp [h]
        rw [this]; exact hb _ (List.getElem_mem h)
      · simp [h]
    unfold I64; omega
  refine ⟨hg _, hg _, hg _, hg _, ?_⟩
  unfold insR
  simp only
  split
  · exact numI_i64 _
  · unfold I64; omega
theorem rdI_ok {l : List Nat} {p q : Nat} {i : Ins} (h : rdI l p = .ok i q) : i = insR l p := by
  unfold rdI at h
  split at h
  · cases h
  split at h
  · cases h
  split at h
  · cases h
  · injection h with h1 h2; exact h1.symm
theorem rdCode_ok {l : List Nat} (hb : ∀ x ∈ l, x < 256) (p : Nat) : ∀ k xs q, rdCode l p k = .ok xs q → ∀ i ∈ xs, InsOk i
  | 0, xs, q, h => by
    unfold rdCode at h
    injection h with h1 h2
    subst h1
    intro i hi; cases hi
  | k + 1, xs, q, h => by
    unfold rdCode at h
    cases h1 : rdCode l p k with
    | bad q => rw [h1] at h; cases h
    | ok ys r =>
      rw [h1] at h
      simp only at h
      cases h2 : rdI l r with
      | bad q => rw [h2] at h; cases h
      | ok j r' =>
        rw [h2] at h
        simp only at h
        injection h with h3 h4
        subst h3
        intro i hi
        rw [List.mem_append, List.mem_singleton] at hi
        rcases hi with hi | rfl
        · exact rdCode_ok hb p k ys r h1 i hi
        · rw [rdI_ok h2]; exact insR_ok hb r
/-- The bytes from a place on. -/
theorem Rdr.sub {w : World} {B g n c p : Nat} {b off : Nat} {l : List Nat} (h : Rdr w B g (some ⟨b, off, none⟩) n c l p) (q k : Nat) : Row w B (some ⟨b, off + q, none⟩) (byteVals ((l.drop q).take k)) := by
  rcases h.row with h1 | ⟨b', off', e, hb, hc⟩
  · left
    have : l = [] := by cases l with
      | nil => rfl
      | cons a l => simp [byteVals] at h1
    subst this
    simp [byteVals]
  · injection e with e
    injection e with e1 e2
    subst e1 e2
    right
    refine ⟨b, off + q, rfl, hb, fun j u hu => ?_⟩
    rw [Nat.add_assoc]
    refine hc (q + j) u ?_
    unfold byteVals at hu ⊢
    rw [List.getElem?_map] at hu ⊢
    rw [List.getElem?_take] at hu
    split at hu
    · rw [List.getElem?_drop] at hu; exact hu
    · cases hu
theorem low_of {w w' : World} {X : Option Addr} {m : Nat} (hg : w.grownBy w' (ob X)) (h : ∀ k, ob X = some k → m ≤ k) (hm : m ≤ w.heap.size) : Below m w w' :=
  ⟨hg.os, hg.tape, hg.output, hg.size, fun i hi => hg.block i (by omega) (fun e => by have := h i e.symm; omega)⟩
theorem mv_low_trans {w w1 w2 : World} {g m : Nat} (h : w.grownBy w1 (some g)) (hb : Below m w1 w2) (hm : w.heap.size ≤ m) : w.grownBy w2 (some g) :=
  ⟨hb.os.trans h.os, hb.tape.trans h.tape, hb.output.trans h.output, Nat.le_trans h.size hb.size, fun i hi hne => (hb.block i (by omega)).trans (h.block i hi hne)⟩
theorem Rdr.low {w w' : World} {B g n c p m : Nat} {A : Option Addr} {l : List Nat} (h : Rdr w B g A n c l p) (hb : Below m w w') (hm : g < m) : Rdr w' B g A n c l p :=
  ⟨h.blk.below hb hm, h.row.below (hb.mono (by have := h.lt; omega)), h.lt, h.len, h.cap, h.capm, h.byte, h.pos, h.small⟩
/-- What holds in fn's loop. -/
structure FnInv (w wr : World) (B g gF : Nat) (A : Option Addr) (n c : Nat) (l : List Nat) (q k : Nat) (xs : List Ins) (X : Option Addr) (cx : Nat) : Prop where
  rdr : Rdr wr B g A n c l q
  blk : Blk wr gF 31 #[.slice X k cx, .slice none 0 0]
  own : Own wr (gF + 1) 33 5 X k cx (xs.flatMap insVals)
  mv : w.grownBy wr (some g)
  tab : Tab wr
/-- A function in new blocks. -/
def FnVal (w : World) (f : Fn) (v : Value) (w' : World) : Prop := ∃ a : FnA, v = .agg #[.slice a.C a.n a.c, .slice a.S a.m a.d] ∧ FnS w' (fun b => w.heap.size ≤ b ∧ b < w'.heap.size) a f
set_option maxHeartbeats 4000000 in
theorem fn_any {w : World} {B g n c p : Nat} {A : Option Addr} {l : List Nat} (h : Rdr w B g A n c l p) (hT : Tab w) (h0 : 0 < B) :
    Calls Tryd.prog 38 #[.pointer (some ⟨g, 0, none⟩)] w fun e w' => RdOut w g A n c (FnVal w) (rdF l p) e w' := by
  have hs := h.small
  have hp := h.pos
  have hmf : ∀ (fn : Go.Fn) (first cap : Array Value) (w : World), (Instr.makeFunc fn first cap).run Tryd.prog w = .ok (.func fn first cap) w := fun _ _ _ _ => rfl
  have hW : ∃ W : World, Hid (W = w.alloc (.cells #[.slice none 0 0, .slice none 0 0] 31)) := ⟨_, rfl⟩
  obtain ⟨W, HW⟩ := hW
  have hgF : ∃ gF : Nat, Hid (gF = w.heap.size) := ⟨_, rfl⟩
  obtain ⟨gF, HGF⟩ := hgF
  have hb0 : Below w.heap.size w W := by rw [HW.out]; exact (Below.refl _ _).alloc (Nat.le_refl _) _
  have HB0 := Lib.hid hb0
  have HR0 := Lib.hid (h.below hb0)
  have HT0 := Lib.hid (hT.step hb0)
  have HBF0 := Lib.hid (show Blk W gF 31 #[.slice none 0 0, .slice none 0 0] by rw [HW.out, HGF.out]; exact Blk.new _ _ _)
  have HGG := Lib.hid (show g < gF ∧ 0 < g ∧ g < w.heap.size ∧ gF = w.heap.size by rw [HGF.out]; have := h.blk.lt; have := h.lt; omega)
  clear hb0 h hT
  have HU := Lib.hid (upto_any HR0.out 64)
  by_cases h1 : l.length ≤ p
  · have HE := Lib.hid (show rdF l p = .bad n by unfold rdF; rw [if_pos h1, HR0.out.len])
    simp only [if_pos h1] at HU
    clear h1
    go_enter Tryd.func38, Tryd.ntmps38
    go_wp2_with fail
    rw [← HW.out]
    refine HU.out.mono ?_
    rintro e w1 ⟨rfl, hg⟩
    go_wp2_with fail
    exact ⟨rfl, rd_bad HE.out (grown_trans7 (grown_of_below HB0.out _) hg)⟩
  · simp only [if_neg h1] at HU
    have hpn : p < n := by have := HR0.out.len; omega
    have hx : ∃ x : Nat, Hid (x = l.getD p 0) := ⟨_, rfl⟩
    obtain ⟨x, HX⟩ := hx
    rw [← HX.out] at HU
    by_cases h64 : 64 < x
    · have HE := Lib.hid (show rdF l p = .bad p by unfold rdF; rw [if_neg h1, ← HX.out, if_pos h64])
      simp only [if_pos h64] at HU
      clear h1
      go_enter Tryd.func38, Tryd.ntmps38
      go_wp2_with fail
      rw [← HW.out]
      refine HU.out.mono ?_
      rintro e w1 ⟨rfl, hg⟩
      go_wp2_with fail
      exact ⟨rfl, rd_bad HE.out (grown_trans7 (grown_of_below HB0.out _) hg)⟩
    · have HE := Lib.hid (show rdF l p = match rdCode l (p + 1) x with
        | .bad q => .bad q
        | .ok is q => if l.length < q + sizeS x then .bad l.length else if okS l q x = true then .ok ⟨is, parseL ((l.drop q).take (sizeS x))⟩ (q + sizeS x) else .bad q by unfold rdF; rw [if_neg h1, ← HX.out, if_neg h64]; rfl)
      simp only [if_neg h64] at HU
      clear h1
      go_enter Tryd.func38, Tryd.ntmps38
      go_wp2_with fail
      rw [← HW.out, ← HGF.out]
      refine HU.out.mono ?_
      rintro e w1 ⟨rfl, hm1⟩
      have HR1 := Lib.hid (HR0.out.moved hm1 (by omega))
      have HI0 := Lib.hid (show FnInv w w1 B g gF A n c l (p + 1) 0 [] none 0 from ⟨HR1.out, HBF0.out.grown hm1.2 (by intro e; injection e with e; have := HGG.out; omega), Own.nil _ _ _ _, grown_trans7 (grown_of_below HB0.out _) hm1.2, HT0.out.keep (mv_low hm1.2 (by have := HR0.out.blk.lt; omega)) HGG.out.2.1⟩)
      clear hm1
      go_wp2_with fail
      obtain ⟨i0, hi, hz0, hz1, hz2⟩ := info_parts Tryd.infoIns
      have HI5 := Lib.hid hi
      have HZ0 := Lib.hid hz0
      have HZ1 := Lib.hid hz1
      have HZ2 := Lib.hid hz2
      clear hi hz0 hz1 hz2
      go_loopw [13] (fun vi wr => ∃ (k q : Nat) (xs : List Ins) (X : Option Addr) (cx : Nat), k ≤ x ∧ vi = .int .i64 k ∧ Hid (rdCode l (p + 1) k = .ok xs q ∧ FnInv w wr B g gF A n c l q k xs X cx)) (fun vi _ => x - (intOf vi).toNat)
      case atStart => exact ⟨0, p + 1, [], none, 0, by omega, rfl, Lib.hid ⟨rfl, HI0.out⟩⟩
      case round =>
        obtain ⟨k, q, xs, X, cx, hk, rfl, HI⟩ := hrel
        clear HI0 HU HR1
        have q0 := HI.out.2.blk.cell 0
        simp only [List.getElem?_toArray, List.getElem?_cons_zero] at q0
        have HZ := Lib.hid HI.out.2.blk.lt
        by_cases hlt : k < x
        · have F0 : ∀ w' : World, S1c gF (.slice X k cx) w' → w'.cell? ⟨gF, 0, none⟩ = some (.slice X k cx) := fun _ h => h
          have hS : ∀ w', Below wr.heap.size wr w' → S1c gF (.slice X k cx) w' := fun w' h => (h.cell (p := ⟨gF, 0, none⟩) HZ.out).trans q0
          have HS := Lib.hid hS
          clear hS q0
          go_wp2_with fail
          refine region_schE (S1c gF (.slice X k cx)) [([0, 1, 2], 3), ([], 4), ([], 5)] [6] 7 (by kernel_rfl) (by kernel_rfl) (by kernel_rfl) (fun _ _ d _ _ h => by cases d <;> exact h) (HS.out _ (Below.refl _ _).drew) ?_
          (try simp only [Act.put, List.setIfInBounds_toArray, List.set_cons_zero, List.set_cons_succ]); refine schE_seg ?_; simp only [pickOps, List.getElem?_toArray, List.getElem?_cons_zero, List.getElem?_cons_succ]; (repeat (first | go_big_quiet_skip | (go_big_quiet_want; first | (go_big_quiet_op; first | go_big_quiet_on | ((first | with_reducible refine ⟨_, fun _ _ => rfl, ?_⟩); go_big_quiet_on)) | (simp (contextual := true) [go_sem, F0]; with_reducible refine ⟨_, fun _ _ => rfl, ?_⟩; go_big_quiet_on)))); refine wpQuiet_nil ?_
          go_wp2_with fail
          have hbd : Below wr.heap.size wr wr.drew := (Below.refl _ _).drew
          have HRD := Lib.hid (HI.out.2.rdr.below hbd)
          have HTD := Lib.hid (HI.out.2.tab.step hbd)
          have HMD := Lib.hid (mv_below HI.out.2.mv hbd)
          have HBD := Lib.hid (HI.out.2.blk.below hbd HZ.out)
          have HOD := Lib.hid (show Own wr.drew (gF + 1) 33 5 X k cx (xs.flatMap insVals) from HI.out.2.own)
          clear hbd
          refine (instr_any HRD.out HTD.out h0).mono ?_
          intro e w2 hout
          have hr : ∃ r, Hid (rdI l q = r) := ⟨_, rfl⟩
          obtain ⟨r, HR⟩ := hr
          rw [HR.out] at hout
          cases r with
          | bad q2 =>
            obtain ⟨he, hg⟩ := hout
            unfold Bad at he
            subst he
            have HE2 := Lib.hid (show rdF l p = .bad q2 by
              rw [HE.out, rdCode_bad l (p + 1) (k + 1) x q2 (by unfold rdCode; rw [HI.out.1]; simp only; rw [HR.out]) (by omega)])
            go_wp2_with fail
            exact ⟨rfl, rd_bad HE2.out (grown_trans7 HMD.out hg)⟩
          | ok y q2 =>
            obtain ⟨⟨v, he, hv⟩, hm2⟩ := hout
            obtain ⟨yo, ya, yb, yc, yn⟩ := y
            have hv2 : v = .agg #[.int .i64 yo, .int .i64 ya, .int .i64 yb, .int .i64 yc, .int .i64 yn] := hv
            subst he hv2
            clear hv
            have HRC := Lib.hid (show rdCode l (p + 1) (k + 1) = .ok (xs ++ [⟨yo, ya, yb, yc, yn⟩]) q2 by unfold rdCode; rw [HI.out.1]; simp only; rw [HR.out])
            have hq2 : q2 ≤ n := by
              have h1 := rdI_in l q (by have := HRD.out.len; have := HRD.out.pos; omega)
              rw [HR.out] at h1
              have h2 : q2 ≤ l.length := h1
              rw [HRD.out.len] at h2
              exact h2
            have HR2 := Lib.hid (HRD.out.moved hm2 hq2)
            have HB2 := Lib.hid (HBD.out.grown hm2.2 (by intro e; injection e with e; have := HGG.out; omega))
            have HO2 := Lib.hid (HOD.out.kept hm2.2 (HOD.out.ne_lt (by have := HGG.out; omega)))
            have HM2 := Lib.hid (grown_trans7 HMD.out hm2.2)
            have HT2 := Lib.hid (HTD.out.keep (mv_low hm2.2 (by have := HRD.out.blk.lt; omega)) HGG.out.2.1)
            have q0 := HB2.out.cell 0
            simp only [List.getElem?_toArray, List.getElem?_cons_zero] at q0
            have c0 : S1c gF (.slice X k cx) w2 := q0
            have C0 := Lib.hid c0
            clear hm2 q0 c0
            go_wp2_with fail
            refine ⟨S1c gF (.slice X k cx), C0.out, fun _ h => h, ?_⟩
            (try simp only [Act.put, List.setIfInBounds_toArray, List.set_cons_zero, List.set_cons_succ]); refine schE_seg ?_; simp only [pickOps, List.getElem?_toArray, List.getElem?_cons_zero, List.getElem?_cons_succ]; (repeat (first | go_big_quiet_skip | (go_big_quiet_want; first | (go_big_quiet_op; first | go_big_quiet_on | ((first | with_reducible refine ⟨_, fun _ _ => rfl, ?_⟩); go_big_quiet_on)) | (simp (contextual := true) [go_sem, F0]; with_reducible refine ⟨_, fun _ _ => rfl, ?_⟩; go_big_quiet_on)))); refine wpQuiet_nil ?_
            have hgn : ∃ gn : Nat, Hid (gn = w2.heap.size) := ⟨_, rfl⟩
            obtain ⟨gn, HGN⟩ := hgn
            have hw3 : ∃ w3 : World, Hid (w3 = w2.alloc (.cells #[.int .i64 yo, .int .i64 ya, .int .i64 yb, .int .i64 yc, .int .i64 yn] 33)) := ⟨_, rfl⟩
            obtain ⟨w3, HW3⟩ := hw3
            go_wp2_with fail
            rw [← HW3.out, ← HGN.out]
            have hb3 : Below w2.heap.size w2 w3 := by rw [HW3.out]; exact (Below.refl _ _).alloc (Nat.le_refl _) _
            have HR3 := Lib.hid (HR2.out.below hb3)
            have HB3 := Lib.hid (HB2.out.below hb3 HB2.out.lt)
            have HO3 := Lib.hid (show Own w3 (gF + 1) 33 5 X k cx (xs.flatMap insVals) by rw [HW3.out]; exact HO2.out.alloc _)
            have HM3 := Lib.hid (mv_below HM2.out hb3)
            have HT3 := Lib.hid (HT2.out.step hb3)
            have HBX := Lib.hid (show ∀ j u, (insVals ⟨yo, ya, yb, yc, yn⟩)[j]? = some u → w3.cell? ((⟨gn, 0, none⟩ : Addr).add j) = some u by
              have hb := Blk.new w2 33 #[.int .i64 yo, .int .i64 ya, .int .i64 yb, .int .i64 yc, .int .i64 yn]
              rw [← HW3.out, ← HGN.out] at hb
              intro j u hu
              rw [Addr.add_lit, Nat.zero_add, hb.cell j]
              rw [List.getElem?_toArray]; exact hu)
            have C3 := Lib.hid (show S1c gF (.slice X k cx) w3 by
              have q0 := HB3.out.cell 0
              simp only [List.getElem?_toArray, List.getElem?_cons_zero] at q0
              exact q0)
            have HZ3 := Lib.hid (show gF + 1 ≤ w3.heap.size from HB3.out.lt)
            have c1' : Hid (k + 1 ≤ maxLen) := by unfold maxLen; show _ ≤ _; omega
            clear hb3
            refine ⟨S1c gF (.slice X k cx), C3.out, fun _ h => h, ?_⟩
            (try simp only [Act.put, List.setIfInBounds_toArray, List.set_cons_zero, List.set_cons_succ]); refine schE_seg ?_; simp only [pickOps, List.getElem?_toArray, List.getElem?_cons_zero, List.getElem?_cons_succ]; (repeat (first | go_big_quiet_skip | (go_big_quiet_want; first | (go_big_quiet_op; first | go_big_quiet_on | ((first | with_reducible refine ⟨_, fun _ _ => rfl, ?_⟩); go_big_quiet_on)) | (simp (contextual := true) [go_sem, F0]; with_reducible refine ⟨_, fun _ _ => rfl, ?_⟩; go_big_quiet_on)))); refine wpQuiet_nil ?_
            go_wp2_with (at_builtin; go_must (refine wpList_append_1 _ rfl _ _ 28 rfl (gF + 1) 33 i0 _ 5 40 Tryd.underlying28 HI5.out HZ0.out HZ1.out HZ2.out rfl (by decide) _ _ _ _ rfl HO3.out ⟨gn, 0, none⟩ 1 (insVals ⟨yo, ya, yb, yc, yn⟩) rfl rfl HBX.out (by simp [insVals, Value.oneCell']) c1'.out (by omega) HZ3.out ?_); intro A' c2' w5 hown1 hgrow1 hat1)
            have hP5 : Blk w5 gF 31 #[.slice X k cx, .slice none 0 0] := HB3.out.grown hgrow1 (fun e => by have := HO3.out.lt gF e.symm; omega)
            have HB5 := Lib.hid hP5
            have HOW := Lib.hid hown1
            have HGR := Lib.hid hgrow1
            have q5 := hP5.cell 0
            simp only [List.getElem?_toArray, List.getElem?_cons_zero] at q5
            have f5 := hP5.frozen 0
            have C5 := Lib.hid (show S1c gF (.slice X k cx) w5 from q5)
            clear hP5 hown1 hgrow1 hat1
            refine ⟨S1c gF (.slice X k cx), C5.out, fun _ h => h, ?_⟩
            (try simp only [Act.put, List.setIfInBounds_toArray, List.set_cons_zero, List.set_cons_succ]); refine schE_last ?_; simp only [pickOps, List.getElem?_toArray, List.getElem?_cons_zero, List.getElem?_cons_succ]; (repeat (first | go_big_quiet_skip | (go_big_quiet_want; first | (go_big_quiet_op; first | go_big_quiet_on | ((first | with_reducible refine ⟨_, fun _ _ => rfl, ?_⟩); go_big_quiet_on)) | (simp (contextual := true) [go_sem, F0]; with_reducible refine ⟨_, fun _ _ => rfl, ?_⟩; go_big_quiet_on)))); refine wpQuiet_nil ?_
            clear F0
            go_wp2_with fail
            have HLOW := Lib.hid (show Below gF w3 (w5.setCell ⟨gF, 0, none⟩ (.slice A' (k + 1) c2')) from (low_of (m := gF) HGR.out (fun j hj => by have := (HO3.out.lt j hj).1; omega) (by have := HZ3.out; omega)).setCell (p := ⟨gF, 0, none⟩) (Nat.le_refl _) _)
            go_roundw
            case rel =>
              refine ⟨k + 1, q2, _, A', c2', by omega, by go_num, Lib.hid ⟨HRC.out, HR3.out.low HLOW.out HGG.out.1, ?_, ?_, mv_low_trans HM3.out HLOW.out (by have := HGG.out; omega), HT3.out.keep HLOW.out (by have := HGG.out; omega)⟩⟩
              · simpa using HB5.out.set_ 0 (.slice A' (k + 1) c2')
              · rw [List.flatMap_append]
                simpa using HOW.out.setCell ⟨gF, 0, none⟩ (.slice A' (k + 1) c2') (HOW.out.ne_lt (by simp))
            case measure => simp [intOf]; omega
        · have hkx : k = x := by omega
          subst hkx
          obtain ⟨r0, r1⟩ := HI.out.2.rdr.cells
          have hq : q ≤ n := HI.out.2.rdr.pos
          have hsz : ∃ sz : Nat, Hid (sz = sizeS k) := ⟨_, rfl⟩
          obtain ⟨sz, HSZ⟩ := hsz
          have hsz1 : 0 < sz ∧ sz ≤ 10 := by rw [HSZ.out]; unfold sizeS; omega
          have HE2 := Lib.hid (show rdF l p = if n < q + sz then .bad n else if okS l q k = true then .ok ⟨xs, parseL ((l.drop q).take sz)⟩ (q + sz) else .bad q by
            rw [HE.out, HI.out.1, HSZ.out]; simp only; rw [HI.out.2.rdr.len])
          have e8 : (2 : Int) + ((k : Int) + 8 - 1) / 8 = (sz : Int) := by rw [HSZ.out]; unfold sizeS; omega
          clear q0
          go_wp2_with fail
          have HRX := Lib.hid HI.out.2.rdr
          have HMX := Lib.hid HI.out.2.mv
          have HTX := Lib.hid HI.out.2.tab
          have HBX := Lib.hid HI.out.2.blk
          have HOX := Lib.hid HI.out.2.own
          have HIN := Lib.hid (rdCode_ok HRX.out.byte (p + 1) k xs q HI.out.1)
          have HXL := Lib.hid (rdCode_len l (p + 1) k xs q HI.out.1)
          clear HI r0 r1
          by_cases hlen : n < q + sz
          · refine (need_bad HRX.out sz (by omega) hlen).mono ?_
            rintro e w6 ⟨rfl, hg⟩
            go_wp2_with fail
            exact ⟨rfl, rd_bad (by rw [HE2.out, if_pos hlen]) (grown_trans7 HMX.out hg)⟩
          · have HE3 := Lib.hid (HE2.out.trans (if_neg hlen))
            refine (need_ok HRX.out sz (by omega) hsz1.1 (by omega)).mono ?_
            rintro e w6 ⟨⟨b, off, rfl, rfl⟩, hm6⟩
            have HR6 := Lib.hid (HRX.out.moved hm6 (by omega))
            have HB6 := Lib.hid (HBX.out.grown hm6.2 (by intro e; injection e with e; have := HGG.out; omega))
            have HO6 := Lib.hid (HOX.out.kept hm6.2 (HOX.out.ne_lt (by have := HGG.out; omega)))
            have HM6 := Lib.hid (grown_trans7 HMX.out hm6.2)
            have HT6 := Lib.hid (HTX.out.keep (mv_low hm6.2 (by have := HRX.out.blk.lt; omega)) HGG.out.2.1)
            have hd : ∃ ds : List Nat, Hid (ds = (l.drop q).take sz) := ⟨_, rfl⟩
            obtain ⟨ds, HDS⟩ := hd
            have HDL := Lib.hid (show ds.length = sz by rw [HDS.out, List.length_take, List.length_drop, HR6.out.len]; omega)
            have HRW := Lib.hid (show Row w6 w6.heap.size (some ⟨b, off + q, none⟩) (byteVals ds) by rw [HDS.out]; exact (HR6.out.sub q sz).more (by have := HR6.out.blk.lt; have := HR6.out.lt; omega))
            have HBY := Lib.hid (show ∀ x ∈ ds, x < 256 by rw [HDS.out]; exact fun x hx => HR6.out.byte x (List.mem_of_mem_drop (List.mem_of_mem_take hx)))
            clear hm6
            go_wp2_with fail
            refine (parse_any (some ⟨b, off + q, none⟩) sz (c - q) ds w6 HDL.out (by have := HR6.out.cap; omega) (by have := HR6.out.capm; omega) HBY.out HRW.out).mono ?_
            intro e w7 hout
            have hok : okS l q k = (parseB ds && decide (parseN ds = k)) := by unfold okS; rw [← HSZ.out, ← HDS.out]
            rcases hout with ⟨hpb, gb, gw, ws, rfl, hM, hgb, hgw, hb7⟩ | ⟨hpb, rfl, hb7⟩
            · have HM7 := Lib.hid (show Bm w7 gb gw ws (parseL ds) from hM)
              have HLN := Lib.hid (parseL_len ds)
              have HR7 := Lib.hid (HR6.out.below hb7)
              have HB7 := Lib.hid (HB6.out.below hb7 HB6.out.lt)
              have HO7 := Lib.hid (HO6.out.kept (grown_of_below hb7 none) (by cases X with | none => exact .inl rfl | some q => right; intro h; cases h))
              have HMV7 := Lib.hid (mv_below HM6.out hb7)
              clear hM hb7 hgb hgw
              by_cases hpn2 : parseN ds = k
              · have HE4 := Lib.hid (show rdF l p = .ok ⟨xs, parseL ds⟩ (q + sz) by rw [HE3.out, hok, hpb, hpn2, HDS.out]; simp)
                have e1 : ((parseL ds).length : Int) = (k : Int) := by rw [HLN.out, hpn2]
                clear hok hpb
                go_wp2_with fail
                refine (len_any HM7.out).mono ?_
                rintro e w8 ⟨rfl, rfl⟩
                rw [e1]
                clear e1
                go_wp2_with fail
                refine (bools_any HM7.out).mono ?_
                rintro e w8 ⟨S, cS, rfl, hOS, hb8⟩
                have HR8 := Lib.hid (HR7.out.below hb8)
                have HB8 := Lib.hid (HB7.out.below hb8 HB7.out.lt)
                have HO8 := Lib.hid (HO7.out.kept (grown_of_below hb8 none) (by cases X with | none => exact .inl rfl | some q => right; intro h; cases h))
                have HMV8 := Lib.hid (mv_below HMV7.out hb8)
                have HOS := Lib.hid (hOS.base_le (base' := gF + 1) (show gF + 1 ≤ w7.heap.size from HB7.out.lt))
                have hml : ∃ m : Nat, Hid (m = (parseL ds).length) := ⟨_, rfl⟩
                obtain ⟨m, HML⟩ := hml
                have HMK := Lib.hid (show m = k by rw [HML.out, HLN.out, hpn2])
                rw [← HML.out] at HOS ⊢
                have q0 := HB8.out.cell 0
                have q1 := HB8.out.cell 1
                simp only [List.getElem?_toArray, List.getElem?_cons_zero, List.getElem?_cons_succ] at q0 q1
                have f0 := HB8.out.frozen 0
                have f1 := HB8.out.frozen 1
                clear hOS hb8
                go_wp2_with fail
                refine bodyPost_ret (v := .agg #[.slice X k cx, .slice S m cS]) (by simp [results, Tryd.results38, go_sem, q0, q1]) rfl ?_
                have hX := ((HO8.out.setCell ⟨gF, 1, none⟩ (.slice S m cS) (HO8.out.ne_lt (by simp))).setCell ⟨gF, 0, none⟩ (.slice X k cx) (HO8.out.ne_lt (by simp))).setCell ⟨gF, 1, none⟩ (.slice S m cS) (HO8.out.ne_lt (by simp))
                have hS := ((HOS.out.setCell ⟨gF, 1, none⟩ (.slice S m cS) (HOS.out.ne_lt (by simp))).setCell ⟨gF, 0, none⟩ (.slice X k cx) (HOS.out.ne_lt (by simp))).setCell ⟨gF, 1, none⟩ (.slice S m cS) (HOS.out.ne_lt (by simp))
                refine rd_ok HE4.out ⟨⟨X, k, cx, S, m, cS⟩, rfl, HXL.out.symm, HML.out, hX.rowS.mono (fun b hb => ⟨by have := HGG.out; omega, hb.2⟩), hS.rowS.mono (fun b hb => ⟨by have := HGG.out; omega, hb.2⟩), ?_, ?_, HIN.out⟩ ⟨?_, ?_⟩
                · unfold maxLen; show k ≤ _; omega
                · unfold maxLen; have := HMK.out; show m ≤ _; omega
                · exact (((HR8.out.set_new (a := ⟨gF, 1, none⟩) HGG.out.1 _).set_new (a := ⟨gF, 0, none⟩) HGG.out.1 _).set_new (a := ⟨gF, 1, none⟩) HGG.out.1 _).blk
                · exact mv_set_new (p := ⟨gF, 1, none⟩) (mv_set_new (p := ⟨gF, 0, none⟩) (mv_set_new (p := ⟨gF, 1, none⟩) HMV8.out (by have := HGG.out; show _ ≤ gF; omega) _) (by have := HGG.out; show _ ≤ gF; omega) _) (by have := HGG.out; show _ ≤ gF; omega) _
              · have HE4 := Lib.hid (show rdF l p = .bad q by
                  have h : decide (parseN ds = k) = false := by simpa using hpn2
                  rw [HE3.out, hok, hpb, h]; simp)
                have e1 : (((parseL ds).length : Int) != (k : Int)) = true := by rw [HLN.out]; simp; omega
                clear hok hpb
                go_wp2_with fail
                refine (len_any HM7.out).mono ?_
                rintro e w8 ⟨rfl, rfl⟩
                go_wp2_with fail
                exact ⟨rfl, rd_bad HE4.out HMV7.out⟩
            · have HE4 := Lib.hid (show rdF l p = .bad q by rw [HE3.out, hok, hpb]; simp)
              have HMV7 := Lib.hid (mv_below HM6.out hb7)
              clear hok hpb hb7
              go_wp2_with fail
              exact ⟨rfl, rd_bad HE4.out HMV7.out⟩
end Go.Proofs.YthcbceaeobnmgaaDoor

/-
  Chapter 7: contract of the reader's instr. Condition: the reader and its bytes lie in memory.
-/
import Derived.Test.YthcbceaeobnmgaaDoorNed7
import Derived.Test.YthcbceaeobnmgaaDoorFit7
namespace Go.Proofs.YthcbceaeobnmgaaDoor
open Go.RowKit
theorem valN_snoc (l : List Nat) (y : Nat) : valN (l ++ [y]) = valN l * 256 + y := by simp [valN, List.foldl_append]
theorem num_step (l : List Nat) (y : Nat) (hy : y < 256) : bits .or .i64 (wrap64 (numI l * 256)) (y : Int) = numI (l ++ [y]) := by
  unfold numI
  rw [valN_snoc]
  generalize valN l = v
  have h1 : (BitVec.ofInt 64 (wrap64 (IntKind.i64.wrap (v : Int) * 256))).toNat = 256 * (v % 72057594037927936) := by
    rw [BitVec.toNat_ofInt, IntKind.wrap_i64]
    unfold wrap64
    omega
  have h2 : (BitVec.ofInt 64 (y : Int)).toNat = y := by
    rw [BitVec.ofInt_natCast, BitVec.toNat_ofNat]; exact Nat.mod_eq_of_lt (by omega)
  have hx : (256 * (v % 72057594037927936)) ||| y = 256 * (v % 72057594037927936) + y := by
    have := Nat.two_pow_add_eq_or_of_lt (i := 8) (b := y) (by omega) (v % 72057594037927936)
    rw [← this]
  show IntKind.i64.wrap ((BitVec.ofInt 64 (wrap64 (IntKind.i64.wrap (v : Int) * 256)) ||| BitVec.ofInt 64 (y : Int)).toNat : Int) = _
  rw [BitVec.toNat_or, h1, h2, hx, IntKind.wrap_i64, IntKind.wrap_i64]
  omega
/-- What comes of a reading: the value and the reader behind it, or the panic of the program's own. -/
def RdOut {α : Type} (w : World) (g : Nat) (A : Option Addr) (n c : Nat) (ok : α → Value → World → Prop) (r : Rd α) (e : Ending) (w' : World) : Prop :=
  match r with
  | .ok x q => (∃ v, e = .returned v ∧ ok x v w') ∧ Moved w w' g A n c q
  | .bad q => Bad e q ∧ w.grownBy w' (some g)
section
variable {w w1 w2 : World} {g : Nat}
theorem mv_set_new (h : w.grownBy w1 (some g)) {p : Addr} (hp : w.heap.size ≤ p.block) (v : Value) : w.grownBy (w1.setCell p v) (some g) :=
  ⟨h.os, h.tape, h.output, by simpa [World.setCell] using h.size, fun i hi hne => (Below.heap_setCell w1 p v i (by omega)).trans (h.block i hi hne)⟩
theorem mv_below (h : w.grownBy w1 (some g)) (hb : Below w1.heap.size w1 w2) : w.grownBy w2 (some g) := grown_trans7 h (grown_of_below hb _)
theorem mv_low (h : w.grownBy w1 (some g)) (hg : g < w.heap.size) : Below g w w1 := ⟨h.os, h.tape, h.output, h.size, fun i hi => h.block i (by omega) (fun e => by injection e with e; omega)⟩
theorem Rdr.below {B n c p : Nat} {A : Option Addr} {l : List Nat} (h : Rdr w1 B g A n c l p) (hb : Below w1.heap.size w1 w2) : Rdr w2 B g A n c l p :=
  ⟨h.blk.below hb h.blk.lt, h.row.below (hb.mono (Nat.le_of_lt (Nat.lt_of_le_of_lt h.lt h.blk.lt))), h.lt, h.len, h.cap, h.capm, h.byte, h.pos, h.small⟩
theorem Rdr.set_new {B n c p : Nat} {A : Option Addr} {l : List Nat} (h : Rdr w1 B g A n c l p) {a : Addr} (ha : g < a.block) (v : Value) : Rdr (w1.setCell a v) B g A n c l p :=
  ⟨h.blk.far (by omega) v, h.row.keep (fun q hq => World.cell?_of_block (Below.heap_setCell w1 a v q.block (by have := h.lt; omega))), h.lt, h.len, h.cap, h.capm, h.byte, h.pos, h.small⟩
end
theorem rd_bad {α : Type} {w w' : World} {g n c q : Nat} {A : Option Addr} {ok : α → Value → World → Prop} {r : Rd α} (hr : r = .bad q) (hg : w.grownBy w' (some g)) :
    RdOut w g A n c ok r (.panicked [{ v := .iface 61 (.agg #[.int .i64 q]), recovered := false }]) w' := by
  subst hr; exact ⟨rfl, hg⟩
theorem rd_ok {α : Type} {w w' : World} {g n c q : Nat} {A : Option Addr} {ok : α → Value → World → Prop} {r : Rd α} {x : α} {v : Value} (hr : r = .ok x q) (hv : ok x v w') (hm : Moved w w' g A n c q) :
    RdOut w g A n c ok r (.returned v) w' := by
  subst hr; exact ⟨⟨v, rfl, hv⟩, hm⟩
def ivals (x y1 y2 y3 : Nat) : Nat → Array Value
  | 0 => #[.int .i64 x, .int .i64 0, .int .i64 0, .int .i64 0, .int .i64 0]
  | 1 => #[.int .i64 x, .int .i64 y1, .int .i64 0, .int .i64 0, .int .i64 0]
  | 2 => #[.int .i64 x, .int .i64 y1, .int .i64 y2, .int .i64 0, .int .i64 0]
  | _ => #[.int .i64 x, .int .i64 y1, .int .i64 y2, .int .i64 y3, .int .i64 0]
/-- The instruction stored back into its own cells. -/
theorem five_back {w w1 : World} {g gI n c q : Nat} {A : Option Addr} {B : Nat} {l : List Nat} (hr : Rdr w1 B g A n c l q) (hm : w.grownBy w1 (some g)) (h1 : g < gI) (h2 : w.heap.size ≤ gI) (v0 v1 v2 v3 v4 : Value) :
    Moved w (((((w1.setCell ⟨gI, 0, none⟩ v0).setCell ⟨gI, 1, none⟩ v1).setCell ⟨gI, 2, none⟩ v2).setCell ⟨gI, 3, none⟩ v3).setCell ⟨gI, 4, none⟩ v4) g A n c q :=
  ⟨(((((hr.set_new (a := ⟨gI, 0, none⟩) h1 v0).set_new (a := ⟨gI, 1, none⟩) h1 v1).set_new (a := ⟨gI, 2, none⟩) h1 v2).set_new (a := ⟨gI, 3, none⟩) h1 v3).set_new (a := ⟨gI, 4, none⟩) h1 v4).blk,
   mv_set_new (mv_set_new (mv_set_new (mv_set_new (mv_set_new hm (p := ⟨gI, 0, none⟩) h2 v0) (p := ⟨gI, 1, none⟩) h2 v1) (p := ⟨gI, 2, none⟩) h2 v2) (p := ⟨gI, 3, none⟩) h2 v3) (p := ⟨gI, 4, none⟩) h2 v4⟩
theorem needI_ge (x : Nat) : 4 ≤ needI x := by unfold needI; split <;> omega
set_option maxHeartbeats 4000000 in
theorem instr_any {w : World} {B g n c p : Nat} {A : Option Addr} {l : List Nat} (h : Rdr w B g A n c l p) (hT : Tab w) (h0 : 0 < B) :
    Calls Tryd.prog 51 #[.pointer (some ⟨g, 0, none⟩)] w fun e w' => RdOut w g A n c (fun i v _ => v = .agg (insVals i).toArray) (rdI l p) e w' := by
  have hs := h.small
  have hp := h.pos
  have hW : ∃ W : World, Hid (W = w.alloc (.cells #[.int .i64 0, .int .i64 0, .int .i64 0, .int .i64 0, .int .i64 0] 33)) := ⟨_, rfl⟩
  obtain ⟨W, HW⟩ := hW
  have hgI : ∃ gI : Nat, Hid (gI = w.heap.size) := ⟨_, rfl⟩
  obtain ⟨gI, HGI⟩ := hgI
  have hb0 : Below w.heap.size w W := by rw [HW.out]; exact (Below.refl _ _).alloc (Nat.le_refl _) _
  have HB0 := Lib.hid hb0
  have HR0 := Lib.hid (h.below hb0)
  have HT0 := Lib.hid (hT.step hb0)
  have HBI0 := Lib.hid (show Blk W gI 33 #[.int .i64 0, .int .i64 0, .int .i64 0, .int .i64 0, .int .i64 0] by rw [HW.out, HGI.out]; exact Blk.new _ _ _)
  have HGG := Lib.hid (show g < gI ∧ 0 < g ∧ g < w.heap.size ∧ gI = w.heap.size by rw [HGI.out]; have := h.blk.lt; have := h.lt; omega)
  obtain ⟨q0, q1⟩ := HR0.out.cells
  rw [HW.out] at q0 q1
  clear hb0 h hT
  by_cases h1 : l.length ≤ p
  · have HE := Lib.hid (show rdI l p = .bad n by unfold rdI; rw [if_pos h1, HR0.out.len])
    have hnb : n < p + 1 := by have := HR0.out.len; omega
    clear h1
    go_enter Tryd.func51, Tryd.ntmps51
    go_wp2_with fail
    rw [← HW.out]
    refine (need_bad HR0.out 1 (by omega) hnb).mono ?_
    rintro e w1 ⟨rfl, hg⟩
    go_wp2_with fail
    exact ⟨rfl, rd_bad HE.out (grown_trans7 (grown_of_below HB0.out _) hg)⟩
  · have hpn : p < n := by have := HR0.out.len; omega
    have hx : ∃ x : Nat, Hid (x = l.getD p 0) := ⟨_, rfl⟩
    obtain ⟨x, HX⟩ := hx
    have HE := Lib.hid (show rdI l p = if isOpB (x : Int) = false then .bad p else if l.length < p + needI x then .bad l.length else .ok (insR l p) (p + needI x) by unfold rdI; rw [if_neg h1, HX.out])
    clear h1
    go_enter Tryd.func51, Tryd.ntmps51
    go_wp2_with fail
    rw [← HW.out, ← HGI.out]
    refine (need_ok HR0.out 1 (by omega) (by omega) (by omega)).mono ?_
    rintro e w1 ⟨⟨b, off, rfl, rfl⟩, hm1⟩
    have HR1 := Lib.hid (HR0.out.moved hm1 (by omega))
    obtain ⟨hc1, hc2⟩ := HR1.out.byte_at rfl hpn
    rw [← HX.out] at hc1 hc2
    have HBI1 := Lib.hid (HBI0.out.grown hm1.2 (by intro e; injection e with e; have := HGG.out; omega))
    have HM1 := Lib.hid (grown_trans7 (grown_of_below HB0.out (some g)) hm1.2)
    have HT1 := Lib.hid (HT0.out.keep (mv_low hm1.2 (by have := HR0.out.blk.lt; omega)) HGG.out.2.1)
    have f0 := HBI1.out.frozen 0
    have j0 := HBI1.out.cell 0
    simp only [List.getElem?_toArray, List.getElem?_cons_zero] at j0
    clear hm1 q0 q1
    have hw2 : ∃ w2 : World, Hid (w2 = w1.setCell ⟨gI, 0, none⟩ (.int .i64 x)) := ⟨_, rfl⟩
    obtain ⟨w2, HW2⟩ := hw2
    have HR2 := Lib.hid (show Rdr w2 B g (some ⟨b, off, none⟩) n c l (p + 1) by rw [HW2.out]; exact HR1.out.set_new HGG.out.1 _)
    have HBI2 := Lib.hid (show Blk w2 gI 33 #[.int .i64 x, .int .i64 0, .int .i64 0, .int .i64 0, .int .i64 0] by rw [HW2.out]; simpa using HBI1.out.set_ 0 (.int .i64 x))
    have HM2 := Lib.hid (show w.grownBy w2 (some g) by rw [HW2.out]; exact mv_set_new HM1.out (by have := HGG.out; show w.heap.size ≤ gI; omega) _)
    have HT2 := Lib.hid (show Tab w2 by rw [HW2.out]; exact HT1.out.keep (B := gI) ((Below.refl gI w1).setCell (p := ⟨gI, 0, none⟩) (Nat.le_refl _) _) (by have := HGG.out; omega))
    go_wp2_with fail
    rw [← HW2.out]
    refine (isaName_any (x : Int) w2 HT2.out).mono ?_
    rintro e w3 ⟨rfl, hb3⟩
    have HR3 := Lib.hid (HR2.out.below hb3)
    have HBI3 := Lib.hid (HBI2.out.below hb3 HBI2.out.lt)
    have HM3 := Lib.hid (mv_below HM2.out hb3)
    have HT3 := Lib.hid (HT2.out.step hb3)
    clear hb3 f0 j0 hc1
    have hstr := opName_str (x : Int)
    generalize opName (x : Int) = s at *
    cases hop : isOpB (x : Int) with
    | false =>
      rw [hop] at hstr HE
      have hs2 : s.toList = [] := by rw [hstr]
      have he : s.toList.isEmpty = true := by rw [hs2]; rfl
      clear hstr hop
      go_wp2_with fail
      exact ⟨rfl, rd_bad (HE.out.trans (if_pos trivial)) HM3.out⟩
    | true =>
      rw [hop, if_neg (by simp)] at HE
      have hs2 : ¬ s.toList = [] := by
        rw [hop] at hstr
        rw [hstr]; decide
      have he : s.toList.isEmpty = false := by
        cases h : s.toList with
        | nil => exact (hs2 h).elim
        | cons y ys => rfl
      clear hstr hop hs2
      by_cases h4 : n < p + 4
      · have HE2 := Lib.hid (HE.out.trans (if_pos (by have := needI_ge x; have := HR3.out.len; omega)))
        go_wp2_with fail
        refine (need_bad HR3.out 3 (by omega) (by omega)).mono ?_
        rintro e w4 ⟨rfl, hg⟩
        go_wp2_with fail
        exact ⟨rfl, rd_bad (by rw [HE2.out, HR3.out.len]) (grown_trans7 HM3.out hg)⟩
      · go_wp2_with fail
        refine (need_ok HR3.out 3 (by omega) (by omega) (by omega)).mono ?_
        rintro e w4 ⟨⟨b', off', e', rfl⟩, hm4⟩
        injection e' with e'
        injection e' with e1 e2
        subst e1 e2
        have HR4 := Lib.hid (HR3.out.moved hm4 (by omega))
        have HBI4 := Lib.hid (HBI3.out.grown hm4.2 (by intro e; injection e with e; have := HGG.out; omega))
        have HM4 := Lib.hid (grown_trans7 HM3.out hm4.2)
        have HT4 := Lib.hid (HT3.out.keep (mv_low hm4.2 (by have := HR3.out.blk.lt; omega)) HGG.out.2.1)
        have ho : ∃ o1 : Nat, Hid (o1 = off + (p + 1)) := ⟨_, rfl⟩
        obtain ⟨o1, HO⟩ := ho
        rw [← HO.out]
        have hy1 : ∃ y1 : Nat, Hid (y1 = l.getD (p + 1) 0) := ⟨_, rfl⟩
        obtain ⟨y1, HY1⟩ := hy1
        have hy2 : ∃ y2 : Nat, Hid (y2 = l.getD (p + 2) 0) := ⟨_, rfl⟩
        obtain ⟨y2, HY2⟩ := hy2
        have hy3 : ∃ y3 : Nat, Hid (y3 = l.getD (p + 3) 0) := ⟨_, rfl⟩
        obtain ⟨y3, HY3⟩ := hy3
        have HCELL := Lib.hid (show ∀ w', Rdr w' B g (some ⟨b, off, none⟩) n c l (p + 4) → (w'.cell? ⟨b, o1, none⟩ = some (.int .u8 y1) ∧ y1 < 256) ∧ (w'.cell? ⟨b, o1 + 1, none⟩ = some (.int .u8 y2) ∧ y2 < 256) ∧ (w'.cell? ⟨b, o1 + 2, none⟩ = some (.int .u8 y3) ∧ y3 < 256) from fun w' hr => by
          rw [HO.out, HY1.out, HY2.out, HY3.out]
          exact ⟨hr.byte_at rfl (q := p + 1) (by omega), hr.byte_at rfl (q := p + 2) (by omega), hr.byte_at rfl (q := p + 3) (by omega)⟩)
        have i0 : ∀ (x0 x1 x2 : Value) w, (Instr.index 91 (.agg #[x0, x1, x2]) (.int .i64 0)).run Tryd.prog w = .ok x0 w := fun _ _ _ _ => by kernel_rfl
        have i1 : ∀ (x0 x1 x2 : Value) w, (Instr.index 91 (.agg #[x0, x1, x2]) (.int .i64 1)).run Tryd.prog w = .ok x1 w := fun _ _ _ _ => by kernel_rfl
        have i2 : ∀ (x0 x1 x2 : Value) w, (Instr.index 91 (.agg #[x0, x1, x2]) (.int .i64 2)).run Tryd.prog w = .ok x2 w := fun _ _ _ _ => by kernel_rfl
        go_wp2_with fail
        go_loopw [28] (fun vi wr => ∃ k : Nat, k ≤ 3 ∧ vi = .int .i64 k ∧ Hid (Rdr wr B g (some ⟨b, off, none⟩) n c l (p + 4) ∧ Blk wr gI 33 (ivals x y1 y2 y3 k) ∧ w.grownBy wr (some g) ∧ Tab wr)) (fun vi _ => 3 - (intOf vi).toNat)
        case atStart => exact ⟨0, by omega, rfl, Lib.hid ⟨HR4.out, HBI4.out, HM4.out, HT4.out⟩⟩
        case round =>
          obtain ⟨k, hk, rfl, HI⟩ := hrel
          have hk4 : k = 0 ∨ k = 1 ∨ k = 2 ∨ k = 3 := by omega
          rcases hk4 with rfl | rfl | rfl | rfl
          · have HB := Lib.hid (show Blk wr gI 33 (ivals x y1 y2 y3 0) from HI.out.2.1)
            obtain ⟨hc, hlt⟩ := (HCELL.out _ HI.out.1).1
            have f0 := HB.out.frozen 1
            have j0 : wr.cell? ⟨gI, 1, none⟩ = some (.int .i64 0) := by rw [HB.out.cell 1]; rfl
            go_wp2_with fail
            go_roundw
            case rel =>
              refine ⟨1, by omega, by go_num, Lib.hid ⟨HI.out.1.set_new HGG.out.1 _, ?_, mv_set_new HI.out.2.2.1 (by have := HGG.out; show w.heap.size ≤ gI; omega) _, HI.out.2.2.2.keep (B := gI) ((Below.refl gI wr).setCell (p := ⟨gI, 1, none⟩) (Nat.le_refl _) _) (by have := HGG.out; omega)⟩⟩
              simpa [ivals] using HB.out.set_ 1 (.int .i64 y1)
            case measure => simp [intOf]
          · have HB := Lib.hid (show Blk wr gI 33 (ivals x y1 y2 y3 1) from HI.out.2.1)
            obtain ⟨hc, hlt⟩ := (HCELL.out _ HI.out.1).2.1
            have f0 := HB.out.frozen 2
            have j0 : wr.cell? ⟨gI, 2, none⟩ = some (.int .i64 0) := by rw [HB.out.cell 2]; rfl
            go_wp2_with fail
            go_roundw
            case rel =>
              refine ⟨2, by omega, by go_num, Lib.hid ⟨HI.out.1.set_new HGG.out.1 _, ?_, mv_set_new HI.out.2.2.1 (by have := HGG.out; show w.heap.size ≤ gI; omega) _, HI.out.2.2.2.keep (B := gI) ((Below.refl gI wr).setCell (p := ⟨gI, 2, none⟩) (Nat.le_refl _) _) (by have := HGG.out; omega)⟩⟩
              simpa [ivals] using HB.out.set_ 2 (.int .i64 y2)
            case measure => simp [intOf]
          · have HB := Lib.hid (show Blk wr gI 33 (ivals x y1 y2 y3 2) from HI.out.2.1)
            obtain ⟨hc, hlt⟩ := (HCELL.out _ HI.out.1).2.2
            have f0 := HB.out.frozen 3
            have j0 : wr.cell? ⟨gI, 3, none⟩ = some (.int .i64 0) := by rw [HB.out.cell 3]; rfl
            go_wp2_with fail
            go_roundw
            case rel =>
              refine ⟨3, by omega, by go_num, Lib.hid ⟨HI.out.1.set_new HGG.out.1 _, ?_, mv_set_new HI.out.2.2.1 (by have := HGG.out; show w.heap.size ≤ gI; omega) _, HI.out.2.2.2.keep (B := gI) ((Below.refl gI wr).setCell (p := ⟨gI, 3, none⟩) (Nat.le_refl _) _) (by have := HGG.out; omega)⟩⟩
              simpa [ivals] using HB.out.set_ 3 (.int .i64 y3)
            case measure => simp [intOf]
          · have HB := Lib.hid (show Blk wr gI 33 (ivals x y1 y2 y3 3) from HI.out.2.1)
            have j0 : wr.cell? ⟨gI, 0, none⟩ = some (.int .i64 x) := by rw [HB.out.cell 0]; rfl
            go_wp2_with fail
            refine (long_any (x : Int) wr HI.out.2.2.2).mono ?_
            rintro e w5 ⟨rfl, hb5⟩
            have HR5 := Lib.hid (HI.out.1.below hb5)
            have HBI5 := Lib.hid (HB.out.below hb5 HB.out.lt)
            have HM5 := Lib.hid (mv_below HI.out.2.2.1 hb5)
            have HL := Lib.hid (show insR l p = ⟨(x : Int), (y1 : Int), (y2 : Int), (y3 : Int), if longB (x : Int) = true then numI ((l.drop (p + 4)).take 8) else 0⟩ by unfold insR; rw [HX.out, HY1.out, HY2.out, HY3.out])
            clear hb5 j0
            have j0 : w5.cell? ⟨gI, 0, none⟩ = some (.int .i64 x) := by rw [HBI5.out.cell 0]; rfl
            have j1 : w5.cell? ⟨gI, 1, none⟩ = some (.int .i64 y1) := by rw [HBI5.out.cell 1]; rfl
            have j2 : w5.cell? ⟨gI, 2, none⟩ = some (.int .i64 y2) := by rw [HBI5.out.cell 2]; rfl
            have j3 : w5.cell? ⟨gI, 3, none⟩ = some (.int .i64 y3) := by rw [HBI5.out.cell 3]; rfl
            have j4 : w5.cell? ⟨gI, 4, none⟩ = some (.int .i64 0) := by rw [HBI5.out.cell 4]; rfl
            have f0 := HBI5.out.frozen 0
            have f1 := HBI5.out.frozen 1
            have f2 := HBI5.out.frozen 2
            have f3 := HBI5.out.frozen 3
            have f4 := HBI5.out.frozen 4
            cases hlg : longB (x : Int) with
            | false =>
              rw [hlg, if_neg (by simp)] at HL
              have HN4 := Lib.hid (show needI x = 4 by unfold needI; rw [hlg, if_neg (by simp)])
              clear hlg
              go_wp2_with fail
              refine bodyPost_ret (v := .agg #[.int .i64 x, .int .i64 y1, .int .i64 y2, .int .i64 y3, .int .i64 0]) (by simp [results, Tryd.results51, go_sem, j0, j1, j2, j3, j4]) rfl ?_
              have hne : ¬ n < p + needI x := by rw [HN4.out]; omega
              refine rd_ok (x := insR l p) (q := p + 4) (by rw [HE.out, HR5.out.len, if_neg hne, HN4.out]) (by rw [HL.out]; rfl) ?_
              exact five_back HR5.out HM5.out HGG.out.1 (by have := HGG.out; omega) _ _ _ _ _
            | true =>
              rw [hlg, if_pos rfl] at HL
              have HN4 := Lib.hid (show needI x = 12 by unfold needI; rw [hlg, if_pos rfl])
              clear hlg
              by_cases h12 : n < p + 12
              · go_wp2_with fail
                refine (need_bad HR5.out 8 (by omega) (by omega)).mono ?_
                rintro e w6 ⟨rfl, hg⟩
                go_wp2_with fail
                exact ⟨rfl, rd_bad (by rw [HE.out, HN4.out, HR5.out.len, if_pos h12]) (grown_trans7 HM5.out hg)⟩
              · go_wp2_with fail
                refine (need_ok HR5.out 8 (by omega) (by omega) (by omega)).mono ?_
                rintro e w6 ⟨⟨b', off', e', rfl⟩, hm6⟩
                injection e' with e'
                injection e' with e1 e2
                subst e1 e2
                have HR6 := Lib.hid (HR5.out.moved hm6 (by omega))
                have HBI6 := Lib.hid (HBI5.out.grown hm6.2 (by intro e; injection e with e; have := HGG.out; omega))
                have HM6 := Lib.hid (grown_trans7 HM5.out hm6.2)
                have ho2 : ∃ o2 : Nat, Hid (o2 = off + (p + 4)) := ⟨_, rfl⟩
                obtain ⟨o2, HO2⟩ := ho2
                rw [← HO2.out]
                have hbs : ∃ bs : List Nat, Hid (bs = (l.drop (p + 4)).take 8) := ⟨_, rfl⟩
                obtain ⟨bs, HBS⟩ := hbs
                rw [← HBS.out] at HL
                have HBL := Lib.hid (show bs.length = 8 by rw [HBS.out, List.length_take, List.length_drop, HR6.out.len]; omega)
                have HCE := Lib.hid (show ∀ w' k, Rdr w' B g (some ⟨b, off, none⟩) n c l (p + 12) → (hk : k < 8) → ∃ y : Nat, w'.cell? ⟨b, o2 + k, none⟩ = some (.int .u8 y) ∧ y < 256 ∧ bs.take (k + 1) = bs.take k ++ [y] from fun w' k hr hk => by
                  obtain ⟨h1, h2⟩ := hr.byte_at rfl (q := p + 4 + k) (by omega)
                  refine ⟨_, ?_, h2, ?_⟩
                  · rw [HO2.out, show off + (p + 4) + k = off + (p + 4 + k) by omega]; exact h1
                  · have hkb : k < bs.length := by rw [HBL.out]; exact hk
                    rw [List.take_succ_eq_append_getElem hkb]
                    congr 2
                    have h3 : p + 4 + k < l.length := by rw [hr.len]; omega
                    have h4 : bs = (l.drop (p + 4)).take 8 := HBS.out
                    subst h4
                    simp [h3])
                have hj : ∀ w', Blk w' gI 33 #[.int .i64 x, .int .i64 y1, .int .i64 y2, .int .i64 y3, .int .i64 0] → True := fun _ _ => trivial
                clear hj j0 j1 j2 j3 j4 f0 f1 f2 f3 f4
                go_wp2_with fail
                go_loopw [49] (fun vi wr => ∃ k : Nat, k ≤ 8 ∧ vi = .int .i64 k ∧ Hid (Rdr wr B g (some ⟨b, off, none⟩) n c l (p + 12) ∧ Blk wr gI 33 #[.int .i64 x, .int .i64 y1, .int .i64 y2, .int .i64 y3, .int .i64 (numI (bs.take k))] ∧ w.grownBy wr (some g))) (fun vi _ => 8 - (intOf vi).toNat)
                case atStart => exact ⟨0, by omega, rfl, Lib.hid ⟨HR6.out, HBI6.out, HM6.out⟩⟩
                case round =>
                  obtain ⟨k, hk, rfl, HI⟩ := hrel
                  have HBB := Lib.hid HI.out.2.1
                  have f4 := HBB.out.frozen 4
                  have j4 : wr.cell? ⟨gI, 4, none⟩ = some (.int .i64 (numI (bs.take k))) := by rw [HBB.out.cell 4]; rfl
                  by_cases hk8 : k < 8
                  · obtain ⟨y, hc, hy, ht⟩ := HCE.out wr k HI.out.1 hk8
                    have HTK := Lib.hid ht
                    have hnn : ∃ nn : Int, Hid (nn = numI (bs.take k)) := ⟨_, rfl⟩
                    obtain ⟨nn, HNN⟩ := hnn
                    rw [← HNN.out] at j4
                    clear ht
                    go_wp2_with fail
                    have HSTP := Lib.hid (num_step (bs.take k) y hy)
                    go_roundw
                    case rel =>
                      refine ⟨k + 1, by omega, by go_num, Lib.hid ⟨HI.out.1.set_new HGG.out.1 _, ?_, mv_set_new HI.out.2.2 (by have := HGG.out; show w.heap.size ≤ gI; omega) _⟩⟩
                      rw [HTK.out, ← HSTP.out, ← HNN.out]
                      simpa using HBB.out.set_ 4 _
                    case measure => simp [intOf]; omega
                  · have hkk : k = 8 := by omega
                    subst hkk
                    have HTA := Lib.hid (show bs.take 8 = bs from List.take_of_length_le (by rw [HBL.out]; omega))
                    rw [HTA.out] at j4 HBB
                    have hnn : ∃ nn : Int, Hid (nn = numI bs) := ⟨_, rfl⟩
                    obtain ⟨nn, HNN⟩ := hnn
                    rw [← HNN.out] at j4 HBB HL
                    clear j4
                    have j0 : wr.cell? ⟨gI, 0, none⟩ = some (.int .i64 x) := by rw [HBB.out.cell 0]; rfl
                    have j1 : wr.cell? ⟨gI, 1, none⟩ = some (.int .i64 y1) := by rw [HBB.out.cell 1]; rfl
                    have j2 : wr.cell? ⟨gI, 2, none⟩ = some (.int .i64 y2) := by rw [HBB.out.cell 2]; rfl
                    have j3 : wr.cell? ⟨gI, 3, none⟩ = some (.int .i64 y3) := by rw [HBB.out.cell 3]; rfl
                    have j4 : wr.cell? ⟨gI, 4, none⟩ = some (.int .i64 nn) := by rw [HBB.out.cell 4]; rfl
                    have f0 := HBB.out.frozen 0
                    have f1 := HBB.out.frozen 1
                    have f2 := HBB.out.frozen 2
                    have f3 := HBB.out.frozen 3
                    go_wp2_with fail
                    refine bodyPost_ret (v := .agg #[.int .i64 x, .int .i64 y1, .int .i64 y2, .int .i64 y3, .int .i64 nn]) (by simp [results, Tryd.results51, go_sem, j0, j1, j2, j3, j4]) rfl ?_
                    have hne : ¬ n < p + needI x := by rw [HN4.out]; omega
                    refine rd_ok (x := insR l p) (q := p + 12) (by rw [HE.out, HI.out.1.len, if_neg hne, HN4.out]) (by rw [HL.out]; rfl) ?_
                    exact five_back HI.out.1 HI.out.2.2 HGG.out.1 (by have := HGG.out; omega) _ _ _ _ _
end Go.Proofs.YthcbceaeobnmgaaDoor

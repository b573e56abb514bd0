/-
  Chapter 39: the reference's Func. Conditions: the function lies in memory.
-/
import Derived.Test.YtfgaonkoaolffaaDoorRht39
import Derived.Test.YtfgaonkoaolffaaDoorFnc39
import Derived.Deep.DeepCutAuto
namespace Go.Proofs.YtfgaonkoaolffaaDoor
open Go.RowKit
/-- What the reference has made: its own function, with the code that was there. -/
structure RM (W wq : World) (g gS : Nat) (C : Option Addr) (n c : Nat) : Prop where
  low : Below W.heap.size W wq
  blk : Blk wq g 39 #[.slice C n c, .slice (some ⟨gS, 0, none⟩) n n]
  hg : W.heap.size ≤ g
  hgS : W.heap.size ≤ gS
  hne : g ≠ gS
section
variable {W wq w1 : World} {g gS n c m d : Nat} {C S : Option Addr} {f : Fn}
theorem RM.mv {L : List Nat} (M : RM W wq g gS C n c) (h : Mv L wq w1) (hl : ∀ b ∈ L, W.heap.size ≤ b ∧ b ≠ g) : RM W w1 g gS C n c :=
  ⟨M.low.trans (h.low M.low.size (fun k hk => (hl k hk).1)), h.blk M.blk (fun e => (hl _ e).2 rfl), M.hg, M.hgS, M.hne⟩
theorem RM.call (M : RM W wq g gS C n c) (h : Below wq.heap.size wq w1) : RM W w1 g gS C n c := M.mv (L := []) (.of_below h (Nat.le_refl _)) (fun b hb => by cases hb)
theorem RM.now (M : RM W wq g gS C n c) (hf : FnOk W W.heap.size ⟨C, n, c, S, m, d⟩ f) {s : List Bool} (hS : Blk wq gS 4 (boolVals s).toArray) (hl : s.length = n) : FnOk wq wq.heap.size ⟨C, n, c, some ⟨gS, 0, none⟩, n, n⟩ ⟨f.code, s⟩ :=
  ⟨hf.1, hl.symm, (hf.step M.low).2.2.1, row_of_blk hS hS.lt, hf.2.2.2.2.1, hf.2.2.2.2.1, hf.2.2.2.2.2.2⟩
end
def RCut (W : World) (C : Option Addr) (n c : Nat) (v6 : Value) (wc : World) : Prop := ∃ g gS, v6 = .pointer (some ⟨g, 0, none⟩) ∧ RM W wc g gS C n c ∧ Blk wc gS 4 (madeCells #[.bool false] n)
theorem openI9 (n : Nat) (op : Nat → Bool) (k : Nat) (h : k < n) : (decide (0 ≤ (k : Int)) && (decide ((k : Int).toNat < n) && op (k : Int).toNat)) = op k := by
  rw [Int.toNat_natCast, decide_eq_true (show 0 ≤ (k : Int) by omega), decide_eq_true h]
  rfl
/-- The truths behind k places. -/
def upTo (f : Fn) (k : Nat) : List Bool := (List.range f.code.length).map fun x => if x < k then f.safe.getD x false else false
theorem upTo_len (f : Fn) (k : Nat) : (upTo f k).length = f.code.length := by simp [upTo]
theorem upTo_all (f : Fn) : upTo f f.code.length = safe0 f := by
  unfold upTo safe0
  refine List.map_congr_left fun x hx => ?_
  rw [if_pos (List.mem_range.1 hx)]
theorem upTo_zero (f : Fn) : upTo f 0 = List.replicate f.code.length false := by
  unfold upTo
  refine List.ext_getElem (by simp) fun i h1 h2 => ?_
  simp
theorem upTo_set (f : Fn) (k : Nat) : (upTo f k).set k (f.safe.getD k false) = upTo f (k + 1) := by
  refine List.ext_getElem (by simp [upTo]) fun i h1 h2 => ?_
  rw [List.getElem_set]
  by_cases e : k = i
  · subst e
    rw [if_pos rfl]
    simp [upTo]
  · rw [if_neg e]
    simp only [upTo, List.getElem_map, List.getElem_range]
    by_cases h : i < k
    · rw [if_pos h, if_pos (by omega)]
    · rw [if_neg h, if_neg (by omega)]
theorem set_zero9 (l : List Nat) (p : Nat) (h : l.getD p 0 = 0) : l.set p 0 = l := by
  refine List.ext_getElem (by simp) fun i h1 h2 => ?_
  rw [List.getElem_set]
  split
  · rename_i e
    subst e
    have h3 : p < l.length := by simpa using h1
    rw [List.getD_eq_getElem?_getD, List.getElem?_eq_getElem h3] at h
    exact h.symm
  · rfl
set_option maxRecDepth 100000 in
set_option maxHeartbeats 8000000 in
theorem rfunc_any {w : World} {C S : Option Addr} {n c m d : Nat} {f : Fn} (most : Int) (hf : FnOk w w.heap.size ⟨C, n, c, S, m, d⟩ f) (hn : n ≤ 64) (hm : m ≤ 64) :
    Calls Tryd.prog 14 #[.agg #[.slice C n c, .slice S m d], .int .i64 most] w fun e w' => ∃ gS : Nat, e = .returned (.tuple #[.agg #[.slice C n c, .slice (some ⟨gS, 0, none⟩) n n], .int .i64 (moreF (max most 0).toNat f)]) ∧ w.heap.size ≤ gS ∧ Blk w' gS 4 (boolVals (markF (max most 0).toNat f).safe).toArray ∧ Below w.heap.size w w' := by
  obtain ⟨mx, HMX⟩ : ∃ k, Hid (k = (max most 0).toNat) := ⟨_, Lib.hid rfl⟩
  rw [← HMX.out]
  have HMI := Lib.hid (show max most 0 = (mx : Int) by rw [HMX.out]; omega)
  obtain ⟨W0, HW0⟩ : ∃ W, Hid (W = (w.alloc (.cells #[.slice C n c, .slice S m d] 39)).alloc (.cells #[.slice none 0 0, .slice none 0 0] 39)) := ⟨_, Lib.hid rfl⟩
  obtain ⟨fb, HFB⟩ : ∃ q, Hid (q = w.heap.size) := ⟨_, Lib.hid rfl⟩
  obtain ⟨rb, HRB⟩ : ∃ q, Hid (q = w.heap.size + 1) := ⟨_, Lib.hid rfl⟩
  obtain ⟨b1, b2, hB⟩ := two_blk w 39 39 #[.slice C n c, .slice S m d] #[.slice none 0 0, .slice none 0 0]
  rw [← HW0.out] at b1 b2 hB
  rw [← HFB.out] at b1
  rw [← HRB.out] at b2
  have HB0 := Lib.hid hB
  have HP0 := Lib.hid b1
  have HR0 := Lib.hid b2
  have HF0 := Lib.hid (hf.step hB)
  have HRI := Lib.hid (rright_any (w := W0) (C := C) (S := S) (c := c) (d := d) hn hm)
  have p0 : W0.cell? ⟨fb, 0, none⟩ = some (.slice C n c) := (b1.cell 0).trans rfl
  have p1 : W0.cell? ⟨fb, 1, none⟩ = some (.slice S m d) := (b1.cell 1).trans rfl
  have hw := HW0.out
  have hfb := HFB.out
  have hrb := HRB.out
  clear hf hB b1 b2
  go_enter Tryd.func14, Tryd.ntmps14
  go_upto_region 1 with (fail)
  rw [← hw, ← hrb, ← hfb]
  clear hw hfb hrb
  go_upto_region 3 with (go_at_call 24; refine HRI.out.mono ?_; rintro e W ⟨rfl, hb⟩; have HWB := Lib.hid hb; clear hb)
  clear p0 p1
  have HFN := Lib.hid (HF0.out.step HWB.out)
  have HBX := Lib.hid (HP0.out.below HWB.out HP0.out.lt)
  have HRX := Lib.hid (HR0.out.below HWB.out HR0.out.lt)
  have f0 : W.cell? ⟨fb, 0, none⟩ = some (.slice C n c) := (HBX.out.cell 0).trans rfl
  have hgF : fb < W.heap.size := HBX.out.lt
  have HCL := Lib.hid (show f.code.length = n from HFN.out.1.symm)
  have hmk : ∀ w, (Instr.makeSlice 37 (.int .i64 (n : Int)) (.int .i64 (n : Int))).run Tryd.prog w = .ok (.slice (some ⟨w.heap.size, 0, none⟩) n n) (w.alloc (.cells (madeCells #[.bool false] n) 4)) := run_make_row' _ _ _ _ Tryd.underlying37 Tryd.infoBool rfl _ _ n (by omega) (by omega)
  go_cut [6] (fun v6 wc => RCut W C n c v6 wc)
  case first =>
    go_region_held3 (fun w' => w'.cell? ⟨fb, 0, none⟩ = some (.slice C n c)) (first | go_keep | (simp (disch := (first | omega | (simp; omega))) [World.cell?_alloc_lt, World.cell?_setCell_far, f0])) (fail)
    · go_wp2_with fail
      go_meet
      case rel =>
        obtain ⟨q1, q2, q3⟩ := blk2 W 4 39 (madeCells #[.bool false] n) #[.slice C n c, .slice (some ⟨W.heap.size, 0, none⟩) n n]
        exact ⟨_, _, rfl, ⟨q3, q2, by omega, Nat.le_refl _, by omega⟩, q1⟩
    · go_wp2_with fail
      go_meet
      case rel =>
        obtain ⟨q1, q2, q3⟩ := blk2 W 39 4 #[.slice C n c, .slice (some ⟨W.heap.size + 1, 0, none⟩) n n] (madeCells #[.bool false] n)
        exact ⟨_, _, rfl, ⟨q3, q1, Nat.le_refl _, by omega, by omega⟩, q2⟩
  case rest =>
    obtain ⟨g, gS, rfl, hM, m3⟩ := hcut
    have HM := Lib.hid hM
    have HRS := Lib.hid (show Blk wc gS 4 (boolVals (upTo f 0)).toArray by rw [upTo_zero, HCL.out]; rw [made_list] at m3; simpa [boolVals] using m3)
    clear hM m3 hmk f0
    have P0 := Lib.hid (fun (V : World) (h : Below W.heap.size W V) => (show V.cell? ⟨fb, 0, none⟩ = some (.slice C n c) from ((HBX.out.below h HBX.out.lt).cell 0).trans rfl))
    have P1 := Lib.hid (fun (V : World) (h : Below W.heap.size W V) => (show V.cell? ⟨fb, 1, none⟩ = some (.slice S m d) from ((HBX.out.below h HBX.out.lt).cell 1).trans rfl))
    go_upto_region 6 with (fail)
    go_loopw [7, 8] (fun v7 v8 wr => ∃ k : Nat, k ≤ n ∧ v8 = .int .i64 k ∧ v7 = .int .i64 (((safe0 f).take k).count true : Nat) ∧ Hid (RM W wr g gS C n c) ∧ Hid (Blk wr gS 4 (boolVals (upTo f k)).toArray)) (fun _ v8 _ => n - (intOf v8).toNat)
    case atStart => exact ⟨0, by omega, rfl, rfl, HM, HRS⟩
    case round =>
      obtain ⟨k, hk, rfl, rfl, K1, K2⟩ := hrel
      obtain ⟨q, HQ⟩ : ∃ q, Hid (q = ((safe0 f).take k).count true) := ⟨_, Lib.hid rfl⟩
      have hq : q ≤ k := by rw [HQ.out]; exact Nat.le_trans List.count_le_length (by rw [List.length_take]; omega)
      rw [← HQ.out]
      have p0 := P0.out wr K1.out.low
      by_cases hlt : k < n
      · have hku : k < (upTo f k).length := by rw [upTo_len, HCL.out]; exact hlt
        have L0 : ∀ w', SB8 wr w' → w'.cell? ⟨g, 1, none⟩ = some (.slice (some ⟨gS, 0, none⟩) n n) := fun w' h => ((K1.out.call h).blk.cell 1).trans rfl
        have L1 : ∀ w', SB8 wr w' → w'.cell? ⟨fb, 1, none⟩ = some (.slice S m d) := fun w' h => P1.out w' (K1.out.low.trans (h.mono K1.out.low.size))
        have f3 := K2.out.drew.frozen k
        have c3 : wr.drew.cell? ⟨gS, k, none⟩ = some (.bool ((upTo f k).getD k false)) := by rw [K2.out.drew.cell]; simp [boolVals, hku]
        have HD := Lib.hid (show SB8 wr wr.drew from (Below.refl _ wr).drew)
        have HCT := Lib.hid (count_take (safe0 f) k (by rw [safe0_len, HCL.out]; exact hlt))
        rw [← HQ.out, safe0_at f (by rw [HCL.out]; exact hlt)] at HCT
        obtain ⟨v, HV⟩ : ∃ v, Hid (v = f.safe.getD k false) := ⟨_, Lib.hid rfl⟩
        have HRS5 := Lib.hid (show Blk (wr.drew.setCell ⟨gS, k, none⟩ (.bool v)) gS 4 (boolVals (upTo f (k + 1))).toArray by rw [← upTo_set, ← HV.out]; have := K2.out.drew.set_ k (.bool v); simpa [boolVals, List.map_set] using this)
        have HM5 := Lib.hid ((K1.out.call HD.out).mv (L := [gS]) ((Mv.refl _ _).set ⟨gS, k, none⟩ (.bool v) (by simp)) (by intro q hq; simp at hq; subst hq; exact ⟨K1.out.hgS, fun e => K1.out.hne e.symm⟩))
        have g5 : (wr.setCell ⟨gS, k, none⟩ (.bool v)).cell? ⟨g, 1, none⟩ = some (.slice (some ⟨gS, 0, none⟩) n n) := (HM5.out.blk.cell 1).trans rfl
        have c5 : (wr.setCell ⟨gS, k, none⟩ (.bool v)).cell? ⟨gS, k, none⟩ = some (.bool v) := by
          rw [show (wr.setCell ⟨gS, k, none⟩ (.bool v)).cell? ⟨gS, k, none⟩ = (wr.drew.setCell ⟨gS, k, none⟩ (.bool v)).cell? ⟨gS, k, none⟩ from rfl, HRS5.out.cell]
          have h1 : k < (upTo f (k + 1)).length := by rw [upTo_len, HCL.out]; exact hlt
          have h2 : (upTo f (k + 1))[k] = v := by rw [HV.out]; simp [upTo]
          simp [boolVals, h1, h2]
        obtain ⟨b0, HB0E⟩ : ∃ b, Hid (b = (upTo f k).getD k false) := ⟨_, Lib.hid rfl⟩
        rw [← HB0E.out] at c3
        rw [← HV.out] at HCT
        by_cases hkm : k < m
        · have hsl : k < f.safe.length := by have := HFN.out.2.1; simp only at this; omega
          obtain ⟨sb, soff, rfl, hsb, hsc⟩ := safe_cell (HFN.out.2.2.2.1) k hsl
          have L2 : ∀ w', SB8 wr w' → w'.cell? ⟨sb, soff + k, none⟩ = some (.bool v) := fun w' h => ((K1.out.low.trans (h.mono K1.out.low.size)).cell (p := ⟨sb, soff + k, none⟩) hsb).trans (by rw [HV.out]; exact hsc)
          have hkm' : decide (k < m) = true := decide_eq_true hkm
          clear hsl hku HV
          cases v with
          | true =>
            go_upto_region 8 with (fail)
            refine region_schE (SB8 wr) [] [0, 1, 2, 3, 4, 5, 6, 7, 8, 9, 10, 11, 12, 13, 14, 15] 16 (by kernel_rfl) (by kernel_rfl) (by kernel_rfl) (fun _ _ d _ _ h => by cases d <;> exact h) HD.out ?_
            (try simp only [Act.put, List.setIfInBounds_toArray, List.set_cons_zero, List.set_cons_succ]); refine schE_last ?_; simp only [pickOps, List.getElem?_toArray, List.getElem?_cons_zero, List.getElem?_cons_succ]; (repeat (first | go_big_quiet_skip | (go_big_quiet_want; first | (go_big_quiet_op; first | go_big_quiet_on | ((first | with_reducible refine ⟨_, fun _ _ => rfl, ?_⟩); go_big_quiet_on)) | (simp (contextual := true) [go_sem, L0, L1, L2]; with_reducible refine ⟨_, fun _ _ => rfl, ?_⟩; go_big_quiet_on)))); refine wpQuiet_nil ?_
            clear L0 L1 L2
            go_wp2_with fail
            rw [drew_set]
            exact ⟨⟨k + 1, by omega, by go_num, by rw [HCT.out]; go_num, HM5, HRS5⟩, by simp [intOf]; omega⟩
          | false =>
            go_upto_region 8 with (fail)
            refine region_schE (SB8 wr) [] [0, 1, 2, 3, 4, 5, 6, 7, 8, 9, 10, 11, 12, 13, 14, 15] 16 (by kernel_rfl) (by kernel_rfl) (by kernel_rfl) (fun _ _ d _ _ h => by cases d <;> exact h) HD.out ?_
            (try simp only [Act.put, List.setIfInBounds_toArray, List.set_cons_zero, List.set_cons_succ]); refine schE_last ?_; simp only [pickOps, List.getElem?_toArray, List.getElem?_cons_zero, List.getElem?_cons_succ]; (repeat (first | go_big_quiet_skip | (go_big_quiet_want; first | (go_big_quiet_op; first | go_big_quiet_on | ((first | with_reducible refine ⟨_, fun _ _ => rfl, ?_⟩); go_big_quiet_on)) | (simp (contextual := true) [go_sem, L0, L1, L2]; with_reducible refine ⟨_, fun _ _ => rfl, ?_⟩; go_big_quiet_on)))); refine wpQuiet_nil ?_
            clear L0 L1 L2
            go_wp2_with fail
            rw [drew_set]
            exact ⟨⟨k + 1, by omega, by go_num, by rw [HCT.out]; rfl, HM5, HRS5⟩, by simp [intOf]; omega⟩
        · have hkm' : decide (k < m) = false := decide_eq_false hkm
          obtain rfl : v = false := by rw [HV.out, getB_big (by have := HFN.out.2.1; simp only at this; omega)]
          clear hku HV
          go_upto_region 8 with (fail)
          refine region_schE (SB8 wr) [] [0, 1, 2, 3, 4, 5, 6, 7, 8, 9, 10, 11, 12, 13, 14, 15] 16 (by kernel_rfl) (by kernel_rfl) (by kernel_rfl) (fun _ _ d _ _ h => by cases d <;> exact h) HD.out ?_
          (try simp only [Act.put, List.setIfInBounds_toArray, List.set_cons_zero, List.set_cons_succ]); refine schE_last ?_; simp only [pickOps, List.getElem?_toArray, List.getElem?_cons_zero, List.getElem?_cons_succ]; (repeat (first | go_big_quiet_skip | (go_big_quiet_want; first | (go_big_quiet_op; first | go_big_quiet_on | ((first | with_reducible refine ⟨_, fun _ _ => rfl, ?_⟩); go_big_quiet_on)) | (simp (contextual := true) [go_sem, L0, L1]; with_reducible refine ⟨_, fun _ _ => rfl, ?_⟩; go_big_quiet_on)))); refine wpQuiet_nil ?_
          clear L0 L1
          go_wp2_with fail
          rw [drew_set]
          exact ⟨⟨k + 1, by omega, by go_num, by rw [HCT.out]; rfl, HM5, HRS5⟩, by simp [intOf]; omega⟩
      · have HQW := Lib.hid (show q = (safe0 f).count true by rw [HQ.out, List.take_of_length_le (by rw [safe0_len, HCL.out]; omega)])
        have HRS1 := Lib.hid (show Blk wr gS 4 (boolVals (safe0 f)).toArray by have h := K2.out; rw [show k = f.code.length by have := HCL.out; omega, upTo_all] at h; exact h)
        obtain ⟨was, HWAS⟩ : ∃ x, Hid (x = q) := ⟨_, Lib.hid rfl⟩
        rw [← HWAS.out] at HQW ⊢
        have p1 := P1.out wr K1.out.low
        have HHD := Lib.hid (rheads_any (HFN.out.step K1.out.low) hn hm)
        obtain ⟨hl, HHL⟩ : ∃ l, Hid (l = hds f) := ⟨_, Lib.hid rfl⟩
        rw [← HHL.out] at HHD
        have hq64 : was ≤ 64 := by rw [HWAS.out]; omega
        clear HQ hq HWAS
        go_upto_region 13 with (go_at_call 25; refine HHD.out.mono ?_; rintro e w4 ⟨HA, hc, rfl, ho, hb⟩; have HO4 := Lib.hid ho; have HM4 := Lib.hid (K1.out.call hb); have HRS4 := Lib.hid (HRS1.out.below hb HRS1.out.lt); clear ho hb)
        obtain ⟨len, HLN⟩ : ∃ q, Hid (q = hl.length) := ⟨_, Lib.hid rfl⟩
        rw [← HLN.out] at HO4 ⊢
        obtain ⟨B3, HB3E⟩ : ∃ q, Hid (q = wr.heap.size) := ⟨_, Lib.hid rfl⟩
        have HGS3 := Lib.hid (show gS < B3 by rw [HB3E.out]; exact HRS1.out.lt)
        rw [← HB3E.out] at HO4
        clear p0 p1 K1 K2 HRS1 HRS HM
        obtain ⟨wo, hwo⟩ : ∃ wo : World, wo = wr := ⟨_, rfl⟩
        go_loopw [10] (fun vi wr => ∃ (i : Nat) (s : List Bool), i ≤ len ∧ vi = .int .i64 i ∧ Hid (s = headS (safe0 f) (hl.take i)) ∧ Hid (RM W wr g gS C n c) ∧ Hid (Blk wr gS 4 (boolVals s).toArray) ∧ Hid (Own wr B3 3 1 HA len hc (ints (upI hl)))) (fun vi _ => len - (intOf vi).toNat)
        case atStart => exact ⟨0, safe0 f, by omega, rfl, Lib.hid rfl, HM4, HRS4, HO4⟩
        case round =>
          obtain ⟨i, s, hi, rfl, K1, K2, K3, K4⟩ := hrel
          have HSL := Lib.hid (show s.length = n by rw [K1.out, headS_len, safe0_len]; exact HCL.out)
          by_cases hil : i < len
          · have HJW := Lib.hid (show wrap64 ((i : Int) + 1) = ((i + 1 : Nat) : Int) by have h1 := own_few K4.out; unfold maxLen at h1; unfold wrap64; omega)
            have hi2 : i < hl.length := by rw [← HLN.out]; exact hil
            obtain ⟨y, HY⟩ : ∃ y, Hid (y = hl[i]) := ⟨_, Lib.hid rfl⟩
            have HYM := Lib.hid (show hl[i]? = some y by rw [HY.out]; exact List.getElem?_eq_getElem hi2)
            have hyn : y < n := by
              have h1 : y ∈ hds f := by rw [← HHL.out]; exact List.mem_of_getElem? HYM.out
              obtain ⟨x, hx, hy, -⟩ := (mem_hd (nxN f.code) f.code.length y).1 h1
              rw [← HCL.out]
              exact nx_lt hy
            obtain ⟨b, off, e0, hb, hcx⟩ := K4.out.row.at_ (k := i) (by simpa [ints, upI] using hi2)
            subst e0
            have c0 := hcx i (.int .i64 (y : Int)) (by simp [ints, upI, hi2, HY.out])
            have hys : y < s.length := by rw [HSL.out]; exact hyn
            have HS1 := Lib.hid (show headS (safe0 f) (hl.take (i + 1)) = if 0 < y then s.set y true else s by rw [head_on _ _ i y HYM.out, ← K1.out, head_step])
            by_cases hy0 : 0 < y
            · have L0 : ∀ w', SB8 wr w' → w'.cell? ⟨g, 1, none⟩ = some (.slice (some ⟨gS, 0, none⟩) n n) := fun w' h => ((K2.out.call h).blk.cell 1).trans rfl
              have L1 : ∀ w', SB8 wr w' → w'.cell? ⟨b, off + i, none⟩ = some (.int .i64 (y : Int)) := fun w' h => (h.cell hb).trans c0
              have f3 := K3.out.drew.frozen y
              have c3 : wr.drew.cell? ⟨gS, y, none⟩ = some (.bool s[y]) := by rw [K3.out.drew.cell]; simp [boolVals, hys]
              have HD := Lib.hid (show SB8 wr wr.drew from (Below.refl _ wr).drew)
              have HS2 := Lib.hid (HS1.out.trans (if_pos hy0))
              have hd0 : decide (0 < y) = true := decide_eq_true hy0
              have HRS5 := Lib.hid (show Blk (wr.drew.setCell ⟨gS, y, none⟩ (.bool true)) gS 4 (boolVals (s.set y true)).toArray by have := K3.out.drew.set_ y (.bool true); simpa [boolVals, List.map_set] using this)
              have HM5 := Lib.hid ((K2.out.call HD.out).mv (L := [gS]) ((Mv.refl _ _).set ⟨gS, y, none⟩ (.bool true) (by simp)) (by intro q hq; simp at hq; subst hq; exact ⟨K2.out.hgS, fun e => K2.out.hne e.symm⟩))
              have HO5 := Lib.hid ((own_low K4.out HD.out).setCell ⟨gS, y, none⟩ (.bool true) ((own_low K4.out HD.out).ne_lt HGS3.out))
              obtain ⟨sy, HSY⟩ : ∃ v, Hid (v = s[y]) := ⟨_, Lib.hid rfl⟩
              rw [← HSY.out] at c3
              clear hb hcx HY hi2 hys hy0 HSY
              go_upto_region 16 with (fail)
              refine region_schE (SB8 wr) [] [0, 1, 2, 3, 4, 5, 6] 7 (by kernel_rfl) (by kernel_rfl) (by kernel_rfl) (fun _ _ d _ _ h => by cases d <;> exact h) HD.out ?_
              (try simp only [Act.put, List.setIfInBounds_toArray, List.set_cons_zero, List.set_cons_succ]); refine schE_last ?_; simp only [pickOps, List.getElem?_toArray, List.getElem?_cons_zero, List.getElem?_cons_succ]; (repeat (first | go_big_quiet_skip | (go_big_quiet_want; first | (go_big_quiet_op; first | go_big_quiet_on | ((first | with_reducible refine ⟨_, fun _ _ => rfl, ?_⟩); go_big_quiet_on)) | (simp (contextual := true) [go_sem, L0, L1]; with_reducible refine ⟨_, fun _ _ => rfl, ?_⟩; go_big_quiet_on)))); refine wpQuiet_nil ?_
              clear L0 L1
              go_wp2_with fail
              rw [HJW.out, drew_set]
              exact ⟨⟨i + 1, _, by omega, rfl, Lib.hid HS2.out.symm, HM5, HRS5, HO5⟩, by simp only [intOf, Int.toNat_natCast]; omega⟩
            · have hd0 : decide (0 < y) = false := decide_eq_false hy0
              have HS2 := Lib.hid (HS1.out.trans (if_neg hy0))
              clear hb hcx HY hi2 hys hy0
              go_wp2_with fail
              rw [HJW.out]
              exact ⟨⟨i + 1, s, by omega, rfl, Lib.hid HS2.out.symm, K2, K3, K4⟩, by simp only [intOf, Int.toNat_natCast]; omega⟩
          · have HS := Lib.hid (show s = head1 f by rw [K1.out, List.take_of_length_le (by have := HLN.out; omega), HHL.out]; rfl)
            rw [HS.out] at K3
            have p0 := P0.out wr K2.out.low
            have hmk2 : ∀ w, (Instr.makeSlice 51 (.int .i64 (n : Int)) (.int .i64 (n : Int))).run Tryd.prog w = .ok (.slice (some ⟨w.heap.size, 0, none⟩) n n) (w.alloc (.cells (madeCells #[.int .i64 0] n) 3)) :=
              run_make_row' _ _ _ _ Tryd.underlying51 Tryd.infoIg rfl _ _ n (by omega) (by omega)
            go_upto_region 19 with (fail)
            generalize hV5 : wr.alloc _ = V5
            have hB5 : Below wr.heap.size wr V5 := by rw [← hV5]; exact (Below.refl _ _).alloc (Nat.le_refl _) _
            have hA5 : Blk V5 wr.heap.size 3 (nis (List.replicate n 0)) := by rw [← hV5, ← made_int]; exact Blk.new wr _ _
            obtain ⟨ga, HGA⟩ : ∃ q, Hid (q = wr.heap.size) := ⟨_, Lib.hid rfl⟩
            rw [← HGA.out] at hA5
            rw [← HGA.out]
            have HA5 := Lib.hid hA5
            have HM5 := Lib.hid (K2.out.call hB5)
            have HRS5 := Lib.hid (K3.out.below hB5 K3.out.lt)
            have HGN := Lib.hid (show W.heap.size ≤ ga ∧ ga ≠ g ∧ gS ≠ ga from ⟨by rw [HGA.out]; exact K2.out.low.size, by have := K2.out.blk.lt; rw [HGA.out]; omega, by have := K3.out.lt; rw [HGA.out]; omega⟩)
            clear hV5 hB5 hA5 p0 hmk2 K1 K2 K3 K4 HSL HGA
            clear hwo wo
            go_loopw [12] (fun vi wr => ∃ (p : Nat) (s : List Bool) (cnt : List Nat), p ≤ n ∧ vi = .int .i64 p ∧ Hid (runF mx f p = (s, cnt)) ∧ Hid (RM W wr g gS C n c) ∧ Hid (Blk wr gS 4 (boolVals s).toArray) ∧ Hid (Blk wr ga 3 (nis cnt))) (fun vi _ => n - (intOf vi).toNat)
            case atStart => exact ⟨0, head1 f, List.replicate n 0, by omega, rfl, Lib.hid (by rw [← HCL.out]; rfl), HM5, HRS5, HA5⟩
            case round =>
              obtain ⟨p, s, cnt, hp, rfl, K1, K3, K4, K5⟩ := hrel
              have HMI5 := Lib.hid (show MI mx (nxN f.code) n (head1 f) p s cnt by have h1 := runF_inv mx f p (by rw [HCL.out]; exact hp); rw [K1.out, HCL.out] at h1; exact h1)
              have p0 := P0.out wr K3.out.low
              by_cases hpn : p < n
              · have hps : p < s.length := by rw [HMI5.out.sl]; exact hpn
                have hpc : p < cnt.length := by rw [HMI5.out.cl]; exact hpn
                have g0 : wr.cell? ⟨g, 0, none⟩ = some (.slice C n c) := (K3.out.blk.cell 0).trans rfl
                have g1 : wr.cell? ⟨g, 1, none⟩ = some (.slice (some ⟨gS, 0, none⟩) n n) := (K3.out.blk.cell 1).trans rfl
                have hop := ropen_any (K3.out.now HFN.out K4.out HMI5.out.sl) (p : Int)
                rw [openI9 n (openB s) p hpn] at hop
                obtain ⟨o, HOE⟩ : ∃ o, Hid (o = openB s p) := ⟨_, Lib.hid rfl⟩
                rw [← HOE.out] at hop
                have HOP := Lib.hid hop
                clear hop
                cases o with
                | false =>
                  have HS := Lib.hid (show runF mx f (p + 1) = (s, cnt) by rw [runF_succ, K1.out]; unfold stepM; rw [if_neg (by rw [← HOE.out]; decide)])
                  clear hps hpc
                  go_wp2_with (go_at_call 26; refine HOP.out.mono ?_; rintro e V1 ⟨rfl, hb1⟩; have HB1 := Lib.hid hb1; clear hb1)
                  exact ⟨⟨p + 1, s, cnt, by omega, by go_num, HS, Lib.hid (K3.out.call HB1.out), Lib.hid (K4.out.below HB1.out K4.out.lt), Lib.hid (K5.out.below HB1.out K5.out.lt)⟩, by simp [intOf]; omega⟩
                | true =>
                  go_upto_region 24 with (go_at_call 26; refine HOP.out.mono ?_; rintro e V1 ⟨rfl, hb1⟩; have HM6 := Lib.hid (K3.out.call hb1); have HRS6 := Lib.hid (K4.out.below hb1 K4.out.lt); have HA6 := Lib.hid (K5.out.below hb1 K5.out.lt); clear hb1)
                  clear g0 g1 p0 K3 K4 K5 HOP
                  obtain ⟨wp, hwp⟩ : ∃ wp : World, wp = wr := ⟨_, rfl⟩
                  go_loopw [13, 14] (fun v13 v14 wr => ∃ k : Nat, k ≤ p ∧ v14 = .int .i64 k ∧ v13 = .int .i64 (cntUp (nxN f.code) cnt k p : Nat) ∧ Hid (RM W wr g gS C n c) ∧ Hid (Blk wr gS 4 (boolVals s).toArray) ∧ Hid (Blk wr ga 3 (nis cnt))) (fun _ v14 _ => p - (intOf v14).toNat)
                  case atStart => exact ⟨0, by omega, rfl, rfl, HM6, HRS6, HA6⟩
                  case round =>
                    obtain ⟨k, hk, rfl, rfl, J2, J3, J4⟩ := hrel
                    obtain ⟨q, HQ⟩ : ∃ x, Hid (x = cntUp (nxN f.code) cnt k p) := ⟨_, Lib.hid rfl⟩
                    have hq65 : q ≤ 65 := by
                      rw [HQ.out]
                      have h1 := cntUp_le (nx := nxN f.code) (cnt := cnt) (b := p) k p (fun x hx => by have := HMI5.out.few x (by omega); omega)
                      omega
                    rw [← HQ.out]
                    by_cases hkp : k < p
                    · have p0 := P0.out wr J2.out.low
                      have p1 := P1.out wr J2.out.low
                      have hnx := rnext_any (HFN.out.step J2.out.low) (by omega) (k : Int)
                      rw [nxZ_nat] at hnx
                      obtain ⟨nl, HNL⟩ : ∃ l, Hid (l = nxN f.code k) := ⟨_, Lib.hid rfl⟩
                      rw [← HNL.out] at hnx
                      have HNX := Lib.hid hnx
                      have HFEW := Lib.hid (show nl.length ≤ 1000 by rw [HNL.out]; have := nx_few9 f.code k; omega)
                      have hkc : k < cnt.length := by omega
                      have hck : cnt.getD k 0 ≤ 65 := by have := HMI5.out.few k hkp; omega
                      have HSU := Lib.hid (cntUp_succ (nx := nxN f.code) cnt k p)
                      rw [← HQ.out, ← HNL.out] at HSU
                      have HCK := Lib.hid (fun (V : World) (h : Below wr.heap.size wr V) => (show V.cell? ⟨ga, k, none⟩ = some (.int .i64 (cnt.getD k 0 : Nat)) by rw [(J4.out.below h J4.out.lt).cell, nis_at _ _ hkc]))
                      obtain ⟨ck, HCKE⟩ : ∃ x, Hid (x = cnt.getD k 0) := ⟨_, Lib.hid rfl⟩
                      rw [← HCKE.out] at HSU hck
                      simp only [← HCKE.out] at HCK
                      clear hnx hps hpc
                      by_cases hmem : p ∈ nl
                      · have HS := Lib.hid (HSU.out.trans (if_pos hmem))
                        have HD := Lib.hid (decide_eq_true hmem)
                        clear hmem
                        go_wp2_with (first | (go_at_call 28; refine HNX.out.mono ?_; rintro e V6 ⟨LA, lc, rfl, ho, hb⟩; have HO6 := Lib.hid ho; have HB6 := Lib.hid hb; have c6 := HCK.out V6 hb; clear ho hb) | (go_at_call 27; refine (has_any nl p HO6.out.row HFEW.out).mono ?_; rintro e V7 ⟨rfl, rfl⟩; rw [HD.out]))
                        exact ⟨⟨k + 1, by omega, by go_num, by rw [HS.out, show (max (q : Int) (1 + (ck : Int))) = ((max q (1 + ck) : Nat) : Int) by omega], Lib.hid (J2.out.call HB6.out), Lib.hid (J3.out.below HB6.out J3.out.lt), Lib.hid (J4.out.below HB6.out J4.out.lt)⟩, by simp [intOf]; omega⟩
                      · have HS := Lib.hid (HSU.out.trans (if_neg hmem))
                        have HD := Lib.hid (decide_eq_false hmem)
                        clear hmem
                        go_wp2_with (first | (go_at_call 28; refine HNX.out.mono ?_; rintro e V6 ⟨LA, lc, rfl, ho, hb⟩; have HO6 := Lib.hid ho; have HB6 := Lib.hid hb; have c6 := HCK.out V6 hb; clear ho hb) | (go_at_call 27; refine (has_any nl p HO6.out.row HFEW.out).mono ?_; rintro e V7 ⟨rfl, rfl⟩; rw [HD.out]))
                        exact ⟨⟨k + 1, by omega, by go_num, by rw [HS.out], Lib.hid (J2.out.call HB6.out), Lib.hid (J3.out.below HB6.out J3.out.lt), Lib.hid (J4.out.below HB6.out J4.out.lt)⟩, by simp [intOf]; omega⟩
                    · obtain rfl : k = p := by omega
                      have g1 : wr.cell? ⟨g, 1, none⟩ = some (.slice (some ⟨gS, 0, none⟩) n n) := (J2.out.blk.cell 1).trans rfl
                      have fA : wr.frozen? ⟨ga, k, none⟩ = false := J4.out.frozen k
                      have cA : wr.cell? ⟨ga, k, none⟩ = some (.int .i64 (cnt.getD k 0 : Nat)) := by rw [J4.out.cell, nis_at _ _ hpc]
                      by_cases hq : mx < q
                      · have hgt : decide (max most 0 < (q : Int)) = true := decide_eq_true (by rw [HMI.out]; omega)
                        have HS := Lib.hid (show runF mx f (k + 1) = (s.set k true, cnt) by rw [runF_succ, K1.out]; unfold stepM; rw [if_pos HOE.out.symm]; simp only; rw [← HQ.out, if_pos hq])
                        have HZ9 := Lib.hid (set_zero9 cnt k (HMI5.out.new k (Nat.le_refl _)).2)
                        have fS : wr.frozen? ⟨gS, k, none⟩ = false := J3.out.frozen k
                        have cS : wr.cell? ⟨gS, k, none⟩ = some (.bool s[k]) := by rw [J3.out.cell]; simp [boolVals, hps]
                        have HRS7 := Lib.hid (show Blk (wr.setCell ⟨gS, k, none⟩ (.bool true)) gS 4 (boolVals (s.set k true)).toArray by have := J3.out.set_ k (.bool true); simpa [boolVals, List.map_set] using this)
                        have HM7 := Lib.hid (J2.out.mv (L := [gS]) ((Mv.refl _ _).set ⟨gS, k, none⟩ (.bool true) (by simp)) (by intro q hq; simp at hq; subst hq; exact ⟨J2.out.hgS, fun e => J2.out.hne e.symm⟩))
                        have HA7 := Lib.hid (J4.out.far (p := ⟨gS, k, none⟩) (by exact Ne.symm HGN.out.2.2) (.bool true))
                        have fA2 : (wr.setCell ⟨gS, k, none⟩ (.bool true)).frozen? ⟨ga, k, none⟩ = false := HA7.out.frozen k
                        have cA2 : (wr.setCell ⟨gS, k, none⟩ (.bool true)).cell? ⟨ga, k, none⟩ = some (.int .i64 (cnt.getD k 0 : Nat)) := by rw [HA7.out.cell, nis_at _ _ hpc]
                        have HRS8 := Lib.hid (HRS7.out.far (p := ⟨ga, k, none⟩) (by exact HGN.out.2.2) (.int .i64 0))
                        have HM8 := Lib.hid (HM7.out.mv (L := [ga]) ((Mv.refl _ _).set ⟨ga, k, none⟩ (.int .i64 0) (by simp)) (by intro q hq; simp at hq; subst hq; exact ⟨HGN.out.1, HGN.out.2.1⟩))
                        have HA8 := Lib.hid (show Blk ((wr.setCell ⟨gS, k, none⟩ (.bool true)).setCell ⟨ga, k, none⟩ (.int .i64 0)) ga 3 (nis cnt) by have h := HA7.out.set_ k (.int .i64 ((0 : Nat) : Int)); rw [nis_set, HZ9.out] at h; exact h)
                        obtain ⟨sk, HSK⟩ : ∃ x, Hid (x = s[k]) := ⟨_, Lib.hid rfl⟩
                        rw [← HSK.out] at cS
                        obtain ⟨ck, HCKE⟩ : ∃ x, Hid (x = cnt.getD k 0) := ⟨_, Lib.hid rfl⟩
                        rw [← HCKE.out] at cA cA2
                        clear hps hpc hq HSK HCKE
                        go_wp2_with fail
                        exact ⟨⟨k + 1, _, cnt, by omega, by go_num, HS, HM8, HRS8, HA8⟩, by simp [intOf]; omega⟩
                      · have hgt : decide (max most 0 < (q : Int)) = false := decide_eq_false (by rw [HMI.out]; omega)
                        have HS := Lib.hid (show runF mx f (k + 1) = (s, cnt.set k q) by rw [runF_succ, K1.out]; unfold stepM; rw [if_pos HOE.out.symm]; simp only; rw [← HQ.out, if_neg hq])
                        have HRS8 := Lib.hid (J3.out.far (p := ⟨ga, k, none⟩) (by exact HGN.out.2.2) (.int .i64 (q : Int)))
                        have HM8 := Lib.hid (J2.out.mv (L := [ga]) ((Mv.refl _ _).set ⟨ga, k, none⟩ (.int .i64 (q : Int)) (by simp)) (by intro q hq; simp at hq; subst hq; exact ⟨HGN.out.1, HGN.out.2.1⟩))
                        have HA8 := Lib.hid (show Blk (wr.setCell ⟨ga, k, none⟩ (.int .i64 (q : Int))) ga 3 (nis (cnt.set k q)) from nis_set cnt k q ▸ J4.out.set_ k _)
                        obtain ⟨ck, HCKE⟩ : ∃ x, Hid (x = cnt.getD k 0) := ⟨_, Lib.hid rfl⟩
                        rw [← HCKE.out] at cA
                        clear hps hpc hq HCKE
                        go_wp2_with fail
                        exact ⟨⟨k + 1, s, _, by omega, by go_num, HS, HM8, HRS8, HA8⟩, by simp [intOf]; omega⟩
              · have HPN := Lib.hid (show p = n by omega)
                have HRF := Lib.hid (show s = (markF mx f).safe by
                  have h1 := K1.out
                  rw [HPN.out, ← HCL.out] at h1
                  show s = (runF mx f f.code.length).1
                  rw [h1])
                have HSL := Lib.hid (show s.length = n from HMI5.out.sl)
                have HRBX := Lib.hid (HRX.out.below K3.out.low HRX.out.lt)
                have HRLT := Lib.hid (show rb < W.heap.size from HRX.out.lt)
                have L0 : ∀ w', S39 g gS n c C w' → w'.cell? ⟨g, 0, none⟩ = some (.slice C n c) := fun w' h => h.1
                have L1 : ∀ w', S39 g gS n c C w' → w'.cell? ⟨g, 1, none⟩ = some (.slice (some ⟨gS, 0, none⟩) n n) := fun w' h => h.2
                have hbd : Below wr.heap.size wr wr.drew := (Below.refl _ _).drew
                have HMD := Lib.hid (K3.out.call hbd)
                have HCO2 := Lib.hid (rcost_any (w := wr.drew) (C := C) (S := some ⟨gS, 0, none⟩) (n := n) (c := c) (m := n) (d := n) s (row_of_blk K4.out.drew K4.out.drew.lt) HSL.out hn hn)
                obtain ⟨now, HNOW⟩ : ∃ k, Hid (k = s.count true) := ⟨_, Lib.hid rfl⟩
                rw [← HNOW.out] at HCO2
                have hnow : now ≤ 64 := by rw [HNOW.out]; exact Nat.le_trans List.count_le_length (by rw [HSL.out]; omega)
                go_wp2_with fail
                refine region_sch (S39 g gS n c C) [([0, 1, 3], 2), ([4], 5)] [6] (by kernel_rfl) (by kernel_rfl) (by kernel_rfl) (fun _ _ d _ _ h => by cases d <;> exact h) ⟨(HMD.out.blk.cell 0).trans rfl, (HMD.out.blk.cell 1).trans rfl⟩ ?_
                (try simp only [Act.put, List.setIfInBounds_toArray, List.set_cons_zero, List.set_cons_succ]); refine sch_seg ?_; simp only [pickOps, List.getElem?_toArray, List.getElem?_cons_zero, List.getElem?_cons_succ]; (repeat (first | go_big_quiet_skip | (go_big_quiet_want; first | (go_big_quiet_op; first | go_big_quiet_on | ((first | with_reducible refine ⟨_, fun _ _ => rfl, ?_⟩); go_big_quiet_on)) | (simp (contextual := true) [go_sem, L0, L1]; with_reducible refine ⟨_, fun _ _ => rfl, ?_⟩; go_big_quiet_on)))); refine wpQuiet_nil ?_
                go_wp2_with fail
                refine HCO2.out.mono ?_
                rintro e w6 ⟨rfl, hb⟩
                have HM6 := Lib.hid (HMD.out.call hb)
                have HRS6 := Lib.hid (K4.out.drew.below hb K4.out.drew.lt)
                have HRB6 := Lib.hid (HRBX.out.drew.below hb HRBX.out.drew.lt)
                clear hb
                go_wp2_with fail
                refine ⟨S39 g gS n c C, ⟨(HM6.out.blk.cell 0).trans rfl, (HM6.out.blk.cell 1).trans rfl⟩, fun _ h => h, ?_⟩
                (try simp only [Act.put, List.setIfInBounds_toArray, List.set_cons_zero, List.set_cons_succ]); refine sch_seg ?_; simp only [pickOps, List.getElem?_toArray, List.getElem?_cons_zero, List.getElem?_cons_succ]; (repeat (first | go_big_quiet_skip | (go_big_quiet_want; first | (go_big_quiet_op; first | go_big_quiet_on | ((first | with_reducible refine ⟨_, fun _ _ => rfl, ?_⟩); go_big_quiet_on)) | (simp (contextual := true) [go_sem, L0, L1]; with_reducible refine ⟨_, fun _ _ => rfl, ?_⟩; go_big_quiet_on)))); refine wpQuiet_nil ?_
                have r0 : w6.cell? ⟨rb, 0, none⟩ = some (.slice none 0 0) := (HRB6.out.cell 0).trans rfl
                have r1 : w6.cell? ⟨rb, 1, none⟩ = some (.slice none 0 0) := (HRB6.out.cell 1).trans rfl
                have r2 : w6.frozen? ⟨rb, 0, none⟩ = false := HRB6.out.frozen 0
                have r3 : w6.frozen? ⟨rb, 1, none⟩ = false := HRB6.out.frozen 1
                obtain ⟨w7, HW7⟩ : ∃ x, Hid (x = (w6.setCell ⟨rb, 0, none⟩ (.slice C n c)).setCell ⟨rb, 1, none⟩ (.slice (some ⟨gS, 0, none⟩) n n)) := ⟨_, Lib.hid rfl⟩
                have HM7 := Lib.hid (show Blk w7 g 39 #[.slice C n c, .slice (some ⟨gS, 0, none⟩) n n] by rw [HW7.out]; exact (HM6.out.blk.far (p := ⟨rb, 0, none⟩) (by have h1 := HRLT.out; have h2 := HM6.out.hg; show g ≠ rb; omega) _).far (p := ⟨rb, 1, none⟩) (by have h1 := HRLT.out; have h2 := HM6.out.hg; show g ≠ rb; omega) _)
                have HRS7 := Lib.hid (show Blk w7 gS 4 (boolVals s).toArray by rw [HW7.out]; exact (HRS6.out.far (p := ⟨rb, 0, none⟩) (by have h1 := HRLT.out; have h2 := HM6.out.hgS; show gS ≠ rb; omega) _).far (p := ⟨rb, 1, none⟩) (by have h1 := HRLT.out; have h2 := HM6.out.hgS; show gS ≠ rb; omega) _)
                have HR7 := Lib.hid (show w7.cell? ⟨rb, 0, none⟩ = some (.slice C n c) ∧ w7.cell? ⟨rb, 1, none⟩ = some (.slice (some ⟨gS, 0, none⟩) n n) by
                  have h := ((HRB6.out.set_ 0 (.slice C n c)).set_ 1 (.slice (some ⟨gS, 0, none⟩) n n))
                  rw [← HW7.out] at h
                  exact ⟨(h.cell 0).trans rfl, (h.cell 1).trans rfl⟩)
                have HB7 := Lib.hid (show Below w.heap.size w w7 by
                  have h1 := HB0.out.trans ((HWB.out.trans (HM6.out.low.mono HWB.out.size)).mono HB0.out.size)
                  rw [HW7.out]
                  exact (h1.setCell (by show _ ≤ rb; rw [HRB.out]; omega) _).setCell (by show _ ≤ rb; rw [HRB.out]; omega) _)
                have HWW := Lib.hid (show w.heap.size ≤ gS from Nat.le_trans (Nat.le_trans HB0.out.size HWB.out.size) HM6.out.hgS)
                have HMORE := Lib.hid (show moreF mx f = (now : Int) - (was : Int) by unfold moreF; rw [← HRF.out, HNOW.out, HQW.out])
                go_wp2_with fail
                rw [← HW7.out]
                refine ⟨S39 g gS n c C, ⟨(HM7.out.cell 0).trans rfl, (HM7.out.cell 1).trans rfl⟩, fun _ h => h, ?_⟩
                (try simp only [Act.put]); refine sch_end ?_; simp only [pickOps, List.getElem?_toArray, List.getElem?_cons_zero, List.getElem?_cons_succ]; (repeat (first | go_big_quiet_skip | (go_big_quiet_want; first | (go_big_quiet_op; first | go_big_quiet_on | ((first | with_reducible refine ⟨_, fun _ _ => rfl, ?_⟩); go_big_quiet_on)) | (simp (contextual := true) [go_sem, L0, L1]; with_reducible refine ⟨_, fun _ _ => rfl, ?_⟩; go_big_quiet_on)))); refine wpQuiet_nil ?_
                have q0 := HR7.out.1
                have q1 := HR7.out.2
                clear L0 L1 r0 r1 r2 r3
                go_wp2_with fail
                refine bodyPost_ret (v := .tuple #[.agg #[.slice C n c, .slice (some ⟨gS, 0, none⟩) n n], .int .i64 ((now : Int) - (was : Int))]) (by simp [results, Tryd.results14, go_sem, q0, q1]) rfl ?_
                exact ⟨gS, by rw [HMORE.out], HWW.out, by rw [← HRF.out]; exact HRS7.out, HB7.out⟩
end Go.Proofs.YtfgaonkoaolffaaDoor

/-
  Chapter 39: mark.Func. Conditions: the table is laid, the function lies in memory.
-/
import Derived.Test.YtfgaonkoaolffaaDoorHds39
import Derived.Test.YtfgaonkoaolffaaDoorMend9b
import Derived.Test.YtfgaonkoaolffaaDoorClone9
import Derived.Test.YtfgaonkoaolffaaDoorCopy
import Derived.Test.YtfgaonkoaolffaaDoorIsaCheck
import Derived.Test.YtfgaonkoaolffaaDoorSchT
import Derived.Test.YtfgaonkoaolffaaDoorGap8
import Derived.WalkMore
namespace Go.Proofs.YtfgaonkoaolffaaDoor
open Go.RowKit
section
variable {W wq w1 : World} {bx : Nat} {a : FnA} {f : Fn} {g gS : Nat} {C' : Option Addr} {fn c' : Nat}
theorem Mid.mv {L : List Nat} (M : Mid W wq bx a f g gS C' fn c') (h : Mv L wq w1) (hl : ∀ b ∈ L, W.heap.size ≤ b ∧ b ≠ g ∧ ob C' ≠ some b) : Mid W w1 bx a f g gS C' fn c' := by
  have hb : Below W.heap.size wq w1 := h.low M.low.size (fun k hk => (hl k hk).1)
  have hp : 0 < W.heap.size := Nat.lt_of_le_of_lt (Nat.zero_le _) M.hbx
  exact ⟨M.tab.keep hb hp, M.low.trans hb, M.fnok.below hb, M.box.below hb M.hbx, h.blk M.blk (fun e => (hl _ e).2.1 rfl), own_mv M.own h (fun b hb' e => (hl b e).2.2 hb'), M.hbx, M.hg, M.hgS, M.hne, M.hCg, M.hCS⟩
/-- The marked function so far. -/
theorem Mid.now (M : Mid W wq bx a f g gS C' fn c') {s : List Bool} (hS : Blk wq gS 4 (boolVals s).toArray) (hl : s.length = fn) (hc : f.code.length = fn) (hn : fn ≤ 100) : FnOk wq wq.heap.size ⟨C', fn, c', some ⟨gS, 0, none⟩, fn, fn⟩ ⟨f.code, s⟩ :=
  ⟨hc.symm, hl.symm, M.own.rowN, row_of_blk hS hS.lt, by simp only [maxLen]; omega, by simp only [maxLen]; omega, M.fnok.2.2.2.2.2.2⟩
end
def S39 (g gS n c' : Nat) (C' : Option Addr) (w : World) : Prop := w.cell? ⟨g, 0, none⟩ = some (.slice C' n c') ∧ w.cell? ⟨g, 1, none⟩ = some (.slice (some ⟨gS, 0, none⟩) n n)
theorem two_blk (w : World) (t1 t2 : TypeId) (c1 c2 : Array Value) : Blk ((w.alloc (.cells c1 t1)).alloc (.cells c2 t2)) w.heap.size t1 c1 ∧ Blk ((w.alloc (.cells c1 t1)).alloc (.cells c2 t2)) (w.heap.size + 1) t2 c2 ∧ Below w.heap.size w ((w.alloc (.cells c1 t1)).alloc (.cells c2 t2)) := by
  have b2 := Blk.new (w.alloc (.cells c1 t1)) t2 c2
  rw [World.size_alloc] at b2
  exact ⟨(Blk.new w t1 c1).alloc _, b2, ((Below.refl _ w).alloc (Nat.le_refl _) _).alloc (by simp) _⟩
theorem safe0_row (f : Fn) : mendRow f 0 = safe0 f := by
  unfold mendRow safe0
  refine List.map_congr_left fun k _ => ?_
  rw [if_neg (Nat.not_lt_zero _), safeB_n]
theorem head_step (s : List Bool) (y : Nat) : s.set y (s.getD y false || decide (0 < y)) = if 0 < y then s.set y true else s := by
  by_cases h : 0 < y
  · rw [if_pos h, decide_eq_true h, Bool.or_true]
  · rw [if_neg h, decide_eq_false h, Bool.or_false]
    refine List.ext_getElem (by simp) fun i h1 h2 => ?_
    rw [List.getElem_set]
    split
    · rename_i e
      subst e
      have h3 : y < s.length := by simpa using h1
      simp [h3]
    · rfl
theorem head_on (s : List Bool) (h : List Nat) (i y : Nat) (hi : h[i]? = some y) : headS s (h.take (i + 1)) = (headS s (h.take i)).set y ((headS s (h.take i)).getD y false || decide (0 < y)) := by
  have e : h.take (i + 1) = h.take i ++ [y] := by rw [List.take_add_one, hi]; rfl
  rw [head_step, e]
  unfold headS
  rw [List.foldl_append]
  rfl
/-- What the program keeps ahead of the places from p on. -/
def AheadP (nx : Nat → List Nat) (n : Nat) (cnt : List Nat) (p : Nat) (al : List Nat) : Prop := al.length = n ∧ ∀ y, y < n → 1 + al.getD y 0 = cntUp nx cnt p y
theorem AheadP.start {nx : Nat → List Nat} {n : Nat} {cnt : List Nat} : AheadP nx n cnt 0 (List.replicate n 0) := ⟨by simp, fun y _ => by rw [zero_at]; rfl⟩
theorem AheadP.skip {nx : Nat → List Nat} {n p : Nat} {cnt al : List Nat} (h : AheadP nx n cnt p al) (h0 : cnt.getD p 0 = 0) : AheadP nx n cnt (p + 1) al :=
  ⟨h.1, fun y hy => by
    have h1 := cntUp_pos (nx := nx) cnt p y
    rw [cntUp_succ, h0, h.2 y hy]
    split
    · omega
    · rfl⟩
/-- .. in the midst of what comes next to p. -/
def AheadI (nx : Nat → List Nat) (n : Nat) (cnt : List Nat) (p q i : Nat) (al : List Nat) : Prop := al.length = n ∧ ∀ y, y < n → 1 + al.getD y 0 = if y ∈ (nx p).take i then max (cntUp nx cnt p y) (1 + q) else cntUp nx cnt p y
theorem AheadI.start {nx : Nat → List Nat} {n p q : Nat} {cnt al : List Nat} (h : AheadP nx n cnt p al) : AheadI nx n cnt p q 0 al := ⟨h.1, fun y hy => by rw [List.take_zero, if_neg (by simp)]; exact h.2 y hy⟩
theorem AheadI.next {nx : Nat → List Nat} {n p q i z : Nat} {cnt al : List Nat} (h : AheadI nx n cnt p q i al) (hi : (nx p)[i]? = some z) (hz : z < n) : AheadI nx n cnt p q (i + 1) (al.set z (max (al.getD z 0) q)) := by
  have htk : (nx p).take (i + 1) = (nx p).take i ++ [z] := by rw [List.take_add_one, hi]; rfl
  refine ⟨by rw [List.length_set, h.1], fun y hy => ?_⟩
  have h1 := h.2 y hy
  rw [getD_set _ _ _ _ (by rw [h.1]; exact hz), htk]
  by_cases e : z = y
  · subst e
    rw [if_pos rfl, if_pos (by simp)]
    split at h1 <;> omega
  · rw [if_neg e, h1]
    have : y ∈ (nx p).take i ++ [z] ↔ y ∈ (nx p).take i := by
      rw [List.mem_append, List.mem_singleton]
      exact ⟨fun h => h.resolve_right (fun e2 => e e2.symm), .inl⟩
    by_cases h2 : y ∈ (nx p).take i
    · rw [if_pos h2, if_pos (this.2 h2)]
    · rw [if_neg h2, if_neg (fun h3 => h2 (this.1 h3))]
theorem AheadI.done {nx : Nat → List Nat} {n p q i : Nat} {cnt al : List Nat} (h : AheadI nx n cnt p q i al) (hi : (nx p).length ≤ i) (hp : p < cnt.length) : AheadP nx n (cnt.set p q) (p + 1) al := by
  refine ⟨h.1, fun y hy => ?_⟩
  have h1 := h.2 y hy
  rw [List.take_of_length_le hi] at h1
  rw [cntUp_succ, cntUp_congr (c := cnt.set p q) (c' := cnt) p y (fun k hk => by rw [getD_set _ _ _ _ hp, if_neg (by omega)]), getD_set _ _ _ _ hp, if_pos rfl]
  exact h1
theorem runF_succ (mx : Nat) (f : Fn) (k : Nat) : runF mx f (k + 1) = stepM mx (nxN f.code) (runF mx f k) k := runM_succ k
theorem cntUp_le {nx : Nat → List Nat} {cnt : List Nat} {b : Nat} (p y : Nat) (h : ∀ k, k < p → cnt.getD k 0 ≤ b) : cntUp nx cnt p y ≤ b + 1 := by
  induction p with
  | zero => show 1 ≤ b + 1; omega
  | succ p ih =>
    have h1 := ih (fun k hk => h k (by omega))
    have h2 := h p (by omega)
    rw [cntUp_succ]
    split <;> omega
theorem MI.few {mx n p : Nat} {nx : Nat → List Nat} {s1 s : List Bool} {cnt : List Nat} (h : MI mx nx n s1 p s cnt) (x : Nat) (hx : x < p) : cnt.getD x 0 ≤ x + 1 := by
  induction x using Nat.strongRecOn with
  | ind x ih =>
    cases ho : openB s x with
    | false => rw [h.shut x ho]; exact Nat.zero_le _
    | true =>
      rw [(h.op x hx ho).1]
      exact cntUp_le x x fun k hk => by have := ih k hk (by omega); omega
set_option maxRecDepth 100000 in
set_option maxHeartbeats 8000000 in
theorem func_any {w : World} {C S : Option Addr} {n c m d : Nat} {f : Fn} (most : Int) (hT : Tab w) (hf : FnOk w w.heap.size ⟨C, n, c, S, m, d⟩ f) (hn : n ≤ 64) (hm : m ≤ 64) :
    Calls Tryd.prog 12 #[.agg #[.slice C n c, .slice S m d], .int .i64 most] w fun e w' => ∃ a' : FnA, e = .returned (.tuple #[.agg #[.slice a'.C a'.n a'.c, .slice a'.S a'.m a'.d], .int .i64 (moreF (max most 0).toNat f)]) ∧ FnS w' (fun b => w.heap.size ≤ b ∧ b < w'.heap.size) a' (markF (max most 0).toNat f) ∧ Below w.heap.size w w' := by
  obtain ⟨mx, HMX⟩ : ∃ k, Hid (k = (max most 0).toNat) := ⟨_, Lib.hid rfl⟩
  rw [← HMX.out]
  have HMI := Lib.hid (show max most 0 = (mx : Int) by rw [HMX.out]; omega)
  obtain ⟨W0, HW0⟩ : ∃ W, Hid (W = (w.alloc (.cells #[.slice C n c, .slice S m d] 39)).alloc (.cells #[.slice none 0 0, .slice none 0 0] 39)) := ⟨_, Lib.hid rfl⟩
  obtain ⟨fb, HFB⟩ : ∃ q, Hid (q = w.heap.size) := ⟨_, Lib.hid rfl⟩
  obtain ⟨rb, HRB⟩ : ∃ q, Hid (q = w.heap.size + 1) := ⟨_, Lib.hid rfl⟩
  obtain ⟨b1, b2, hB⟩ := two_blk w 39 39 #[.slice C n c, .slice S m d] #[.slice none 0 0, .slice none 0 0]
  rw [← HW0.out] at b1 b2 hB
  rw [← HFB.out] at b1
  rw [← HRB.out] at b2
  have HB0 := Lib.hid hB
  have HP0 := Lib.hid b1
  have HR0 := Lib.hid b2
  have HF0 := Lib.hid (hf.step hB)
  have HT0 := Lib.hid (hT.step hB)
  have HRI := Lib.hid (right_any (w := W0) (C := C) (S := S) (c := c) (d := d) hn hm)
  have p0 : W0.cell? ⟨fb, 0, none⟩ = some (.slice C n c) := (b1.cell 0).trans rfl
  have p1 : W0.cell? ⟨fb, 1, none⟩ = some (.slice S m d) := (b1.cell 1).trans rfl
  have hw := HW0.out
  have hfb := HFB.out
  have hrb := HRB.out
  clear hf hT hB b1 b2
  go_enter Tryd.func12, Tryd.ntmps12
  go_upto_region 1 with (fail)
  rw [← hw, ← hrb, ← hfb]
  clear hw hfb hrb
  go_step3
  go_upto_region 3 with (go_at_call 18; refine HRI.out.mono ?_; rintro e W ⟨rfl, hb⟩; have HWB := Lib.hid hb; clear hb)
  clear p0 p1
  have HT := Lib.hid (HT0.out.step HWB.out)
  have HFN := Lib.hid (HF0.out.step HWB.out)
  have HBX := Lib.hid (HP0.out.below HWB.out HP0.out.lt)
  have HRX := Lib.hid (HR0.out.below HWB.out HR0.out.lt)
  have f0 : W.cell? ⟨fb, 0, none⟩ = some (.slice C n c) := (HBX.out.cell 0).trans rfl
  have hgF : fb < W.heap.size := HBX.out.lt
  have hrow : ∀ w', Below W.heap.size W w' → Row w' w'.heap.size C (f.code.flatMap insVals) := fun w' hb => (HFN.out.step hb).2.2.1
  have HR := Lib.hid hrow
  have HCL := Lib.hid (show f.code.length = n from HFN.out.1.symm)
  have hfn100 : n ≤ 100 := by omega
  have hmk : ∀ w, (Instr.makeSlice 37 (.int .i64 (n : Int)) (.int .i64 (n : Int))).run Tryd.prog w = .ok (.slice (some ⟨w.heap.size, 0, none⟩) n n) (w.alloc (.cells (madeCells #[.bool false] n) 4)) := run_make_row' _ _ _ _ Tryd.underlying37 Tryd.infoBool rfl _ _ n (by omega) (by omega)
  clear hrow
  go_cut [6] (fun v6 wc => MendCut W f n v6 wc)
  case first =>
    go_region_held3 (fun w' => w'.cell? ⟨fb, 0, none⟩ = some (.slice C n c)) (first | go_keep | (simp (disch := (first | omega | (simp; omega))) [World.cell?_alloc_lt, World.cell?_setCell_far, hc1, f0])) ((go_at_call 19; refine (clone_any C n c f.code _ HCL.out hfn100 (HR.out _ (by repeat (first | exact Below.refl _ _ | apply Below.drew | refine Below.alloc ?_ (by simp) _)))).mono ?_; rintro e w1 ⟨C', c', rfl, hown, hb⟩; have HO := Lib.hid hown; have HB := Lib.hid hb; obtain ⟨hc1, hf1⟩ := bcell hb; have hz1 : fb < w1.heap.size := Nat.lt_of_lt_of_le (by simp; omega) hb.size; (try (refine cut_ (p := W.heap.size < w1.heap.size) (Nat.lt_of_lt_of_le ?_ hb.size) ?_; (focus (simp; done)); intro hz3; have hz4 : w1.heap.size ≠ W.heap.size := (by omega); have hz5 : W.heap.size ≠ w1.heap.size := (by omega))); clear hown hb))
    · go_wp2_with fail
      go_meet
      case rel => exact mendCut1 (W := W) HO.out ((Below.refl _ _).drew.trans HB.out)
    · go_wp2_with fail
      go_meet
      case rel => exact mendCut2 (W := W) HO.out ((Below.refl _ _).drew.trans HB.out)
    · go_wp2_with fail
      go_meet
      case rel => exact mendCut3 (blk1 _ _ _) (size1 _ _) (bel1 _ _) HO.out HB.out
    · go_wp2_with fail
      go_meet
      case rel =>
        obtain ⟨q1, q2, q3⟩ := blk2 W 4 39 (madeCells #[.bool false] n) #[.slice none 0 0, .slice none 0 0]
        exact mendCut4 q1 q2 (by omega) (by omega) (by omega) q3 HO.out HB.out
    · go_wp2_with fail
      go_meet
      case rel => exact mendCut5 (blk1 _ _ _) (size1 _ _) (bel1 _ _) HO.out HB.out
    · go_wp2_with fail
      go_meet
      case rel =>
        obtain ⟨q1, q2, q3⟩ := blk2 W 39 4 #[.slice none 0 0, .slice none 0 0] (madeCells #[.bool false] n)
        exact mendCut4 q2 q1 (by omega) (by omega) (by omega) q3 HO.out HB.out
  case rest =>
    obtain ⟨g, C', c', gS, rfl, m1, m2, m3, m4, m5, m6, m7, m8, m9⟩ := hcut
    have M1 := Lib.hid m1
    have M2 := Lib.hid m2
    have M7 := Lib.hid m7
    have M8 := Lib.hid m8
    have M9 := Lib.hid m9
    have g0 := m1.cell 0
    have g1 := m1.cell 1
    have f1 := (HBX.out.below m9 hgF).cell 1
    simp at g0 g1 f1
    rw [made_list] at m3
    have M3 := Lib.hid (show wc.heap[gS]? = some (.cells (List.replicate n (Value.bool false)).toArray 4 (0, 0)) from m3)
    have hfm : f.safe.length = m := HFN.out.2.1.symm
    have hsrc : 0 < (boolVals (f.safe.take n)).length → ∃ ad, S = some ad ∧ ∀ j v, (boolVals (f.safe.take n))[j]? = some v → wc.cell? (ad.add j) = some v := by
      intro hp
      have hr : Row wc wc.heap.size S (boolVals f.safe) := (HFN.out.step m9).2.2.2.1
      obtain ⟨ad, e, hc⟩ := hr.adds (by simp [boolVals] at hp ⊢; omega)
      refine ⟨ad, e, fun j v hj => hc j v ?_⟩
      have hjt : j < (boolVals (f.safe.take n)).length := (List.getElem?_eq_some_iff.1 hj).1
      simp only [boolVals, List.length_map, List.length_take] at hjt
      rw [← hj]
      simp only [boolVals, List.getElem?_map]
      rw [List.getElem?_take_of_lt (by omega)]
    have HS := Lib.hid hsrc
    have hlen : (boolVals (f.safe.take n)).length = Nat.min m n := by
      rw [← hfm]; simp [boolVals, Nat.min_comm]
    have HLEN := Lib.hid hlen
    have hfit : 0 + (boolVals (f.safe.take n)).length ≤ (List.replicate n (Value.bool false)).length := by rw [hlen, List.length_replicate, Nat.zero_add]; exact Nat.min_le_right _ _
    have HFIT := Lib.hid hfit
    have HONE := Lib.hid (boolVals_one (f.safe.take n))
    clear m1 m2 m3 m7 m8 m9 hmk f0 hsrc hlen hfit hfm
    go_upto_region 5 with ((with_reducible show wpList _ _ _ _ _ _); (refine wpList_copy_keep (o := ⟨some 31, _, _, _, _, _⟩) rfl (.tmp 28) (.tmp 30) 37 37 rfl 4 Tryd.underlying37 (by kernel_rfl) (some ⟨gS, 0, none⟩) S n n m d (by rfl) (by rfl) gS 0 _ 4 M3.out (boolVals (f.safe.take n)) HLEN.out (fun hp => ⟨rfl, HS.out hp⟩) HFIT.out HONE.out ?_); intro w2 hg2 hk2; have e2 := (M1.out.grown hk2.out (fun e => m6 (by injection e))).cell 1; simp at e2)
    have HM := Lib.hid (Mid.grow (wq := wc) (W := W) (bx := fb) (a := ⟨C, n, c, S, m, d⟩) (f := f) (g := g) (gS := gS) (C' := C') (fn := n) (c' := c') ⟨HT.out.step M9.out, M9.out, HFN.out.below M9.out, HBX.out.below M9.out hgF, M1.out, M2.out, hgF, m4, m5, m6, M7.out, M8.out⟩ hk2.out)
    have HRS := Lib.hid (show Blk w2 gS 4 (boolVals (safe0 f)).toArray by
      have := hg2.out
      rw [← HCL.out] at this
      rw [mendRow_zero, safe0_row] at this
      exact this)
    have HNEQ := Lib.hid (show W.heap.size ≤ g ∧ W.heap.size ≤ gS ∧ g ≠ gS from ⟨m4, m5, m6⟩)
    have g0 : w2.cell? ⟨g, 0, none⟩ = some (.slice C' n c') := (HM.out.blk.cell 0).trans rfl
    have g1 : w2.cell? ⟨g, 1, none⟩ = some (.slice (some ⟨gS, 0, none⟩) n n) := (HM.out.blk.cell 1).trans rfl
    have HCO := Lib.hid (cost_any (w := w2) (C := C') (S := some ⟨gS, 0, none⟩) (n := n) (c := c') (m := n) (d := n) (safe0 f) (row_of_blk HRS.out HRS.out.lt) (by rw [safe0_len]; exact HCL.out) hn hn)
    obtain ⟨was, HWAS⟩ : ∃ k, Hid (k = (safe0 f).count true) := ⟨_, Lib.hid rfl⟩
    rw [← HWAS.out] at HCO
    clear hg2 hk2 M1 M2 M3 M7 M8 M9 HS HLEN HFIT HONE e2 HR f1 m4 m5 m6
    go_upto_region 6 with (go_at_call 20; refine HCO.out.mono ?_; rintro e w3 ⟨rfl, hb⟩; have HM3 := Lib.hid (HM.out.call hb); have HRS3 := Lib.hid (HRS.out.below hb HRS.out.lt); clear hb)
    have f0 : w3.cell? ⟨fb, 0, none⟩ = some (.slice C n c) := (HM3.out.box.cell 0).trans rfl
    have f1 : w3.cell? ⟨fb, 1, none⟩ = some (.slice S m d) := (HM3.out.box.cell 1).trans rfl
    have HHD := Lib.hid (heads_any HM3.out.tab HM3.out.ok hn hm)
    obtain ⟨hl, HHL⟩ : ∃ l, Hid (l = hds f) := ⟨_, Lib.hid rfl⟩
    rw [← HHL.out] at HHD
    clear g0 g1
    go_upto_region 7 with (go_at_call 21; refine HHD.out.mono ?_; rintro e w4 ⟨HA, hc, rfl, ho, hb⟩; have HO4 := Lib.hid ho; have HM4 := Lib.hid (HM3.out.call hb); have HRS4 := Lib.hid (HRS3.out.below hb HRS3.out.lt); have HB34 := Lib.hid hb.size; clear ho hb)
    obtain ⟨len, HLN⟩ : ∃ q, Hid (q = hl.length) := ⟨_, Lib.hid rfl⟩
    rw [← HLN.out] at HO4 ⊢
    have HGS3 := Lib.hid (show gS < w3.heap.size from HRS3.out.lt)
    obtain ⟨B3, HB3E⟩ : ∃ q, Hid (q = w3.heap.size) := ⟨_, Lib.hid rfl⟩
    rw [← HB3E.out] at HO4 HGS3
    clear f0 f1 HM HRS HM3 HRS3
    go_loopw [37] (fun vi wr => ∃ (i : Nat) (s : List Bool), i ≤ len ∧ vi = .int .i64 i ∧ Hid (s = headS (safe0 f) (hl.take i)) ∧ Hid (Mid W wr fb ⟨C, n, c, S, m, d⟩ f g gS C' n c') ∧ Hid (Blk wr gS 4 (boolVals s).toArray) ∧ Hid (Own wr B3 3 1 HA len hc (ints (upI hl)))) (fun vi _ => len - (intOf vi).toNat)
    case atStart => exact ⟨0, safe0 f, by omega, rfl, Lib.hid rfl, HM4, HRS4, HO4⟩
    case round =>
      obtain ⟨i, s, hi, rfl, K1, K2, K3, K4⟩ := hrel
      have HSL := Lib.hid (show s.length = n by rw [K1.out, headS_len, safe0_len]; exact HCL.out)
      by_cases hil : i < len
      · have HJW := Lib.hid (show wrap64 ((i : Int) + 1) = ((i + 1 : Nat) : Int) by have h1 := own_few K4.out; unfold maxLen at h1; unfold wrap64; omega)
        have hi2 : i < hl.length := by rw [← HLN.out]; exact hil
        obtain ⟨y, HY⟩ : ∃ y, Hid (y = hl[i]) := ⟨_, Lib.hid rfl⟩
        have HYM := Lib.hid (show hl[i]? = some y by rw [HY.out]; exact List.getElem?_eq_getElem hi2)
        have hyn : y < n := by
          have h1 : y ∈ hds f := by rw [← HHL.out]; exact List.mem_of_getElem? HYM.out
          obtain ⟨x, hx, hy, -⟩ := (mem_hd (nxN f.code) f.code.length y).1 h1
          rw [← HCL.out]
          exact nx_lt hy
        obtain ⟨b, off, e0, hb, hcx⟩ := K4.out.row.at_ (k := i) (by simpa [ints, upI] using hi2)
        subst e0
        have c0 := hcx i (.int .i64 (y : Int)) (by simp [ints, upI, hi2, HY.out])
        have hys : y < s.length := by rw [HSL.out]; exact hyn
        have L0 : ∀ w', SB8 wr w' → w'.cell? ⟨g, 1, none⟩ = some (.slice (some ⟨gS, 0, none⟩) n n) := fun w' h => ((K2.out.call h).blk.cell 1).trans rfl
        have L1 : ∀ w', SB8 wr w' → w'.cell? ⟨gS, y, none⟩ = some (.bool (s.getD y false)) := fun w' h => by rw [(K3.out.below h K3.out.lt).cell]; simp [boolVals, hys]
        have f3 := K3.out.drew.frozen y
        have c3 : wr.drew.cell? ⟨gS, y, none⟩ = some (.bool (s.getD y false)) := L1 _ (Below.refl _ wr).drew
        have HD := Lib.hid (show SB8 wr wr.drew from (Below.refl _ wr).drew)
        have HS1 := Lib.hid (show headS (safe0 f) (hl.take (i + 1)) = s.set y (s.getD y false || decide (0 < y)) by rw [head_on _ _ i y HYM.out, ← K1.out])
        obtain ⟨v, HV⟩ : ∃ v, Hid (v = s.getD y false) := ⟨_, Lib.hid rfl⟩
        rw [← HV.out] at L1 c3 HS1
        have HRS5 := Lib.hid (show Blk (wr.drew.setCell ⟨gS, y, none⟩ (.bool (v || decide (0 < y)))) gS 4 (boolVals (s.set y (v || decide (0 < y)))).toArray by have := K3.out.drew.set_ y (.bool (v || decide (0 < y))); simpa [boolVals, List.map_set] using this)
        have HM5 := Lib.hid ((K2.out.call HD.out).mv (L := [gS]) ((Mv.refl _ _).set ⟨gS, y, none⟩ (.bool (v || decide (0 < y))) (by simp)) (by intro q hq; simp at hq; subst hq; exact ⟨K2.out.hgS, fun e => K2.out.hne e.symm, K2.out.hCS⟩))
        have HO5 := Lib.hid ((own_low K4.out HD.out).setCell ⟨gS, y, none⟩ (.bool (v || decide (0 < y))) ((own_low K4.out HD.out).ne_lt HGS3.out))
        clear hb hcx HY hi2 hys
        cases v with
        | true =>
          simp only [Bool.true_or] at HRS5 HM5 HO5 HS1
          go_upto_region 9 with (fail)
          refine region_schE (SB8 wr) [] [0, 1, 2, 3, 4, 5, 6, 7, 8, 9, 10, 11, 12] 13 (by kernel_rfl) (by kernel_rfl) (by kernel_rfl) (fun _ _ d _ _ h => by cases d <;> exact h) HD.out ?_
          (try simp only [Act.put, List.setIfInBounds_toArray, List.set_cons_zero, List.set_cons_succ]); refine schE_last ?_; simp only [pickOps, List.getElem?_toArray, List.getElem?_cons_zero, List.getElem?_cons_succ]; (repeat (first | go_big_quiet_skip | (go_big_quiet_want; first | (go_big_quiet_op; first | go_big_quiet_on | ((first | with_reducible refine ⟨_, fun _ _ => rfl, ?_⟩); go_big_quiet_on)) | (simp (contextual := true) [go_sem, L0, L1]; with_reducible refine ⟨_, fun _ _ => rfl, ?_⟩; go_big_quiet_on)))); refine wpQuiet_nil ?_
          clear L0 L1
          go_wp2_with fail
          rw [HJW.out, drew_set]
          exact ⟨⟨i + 1, _, by omega, rfl, Lib.hid HS1.out.symm, HM5, HRS5, HO5⟩, by simp only [intOf, Int.toNat_natCast]; omega⟩
        | false =>
          simp only [Bool.false_or] at HRS5 HM5 HO5 HS1
          go_upto_region 9 with (fail)
          refine region_schE (SB8 wr) [] [0, 1, 2, 3, 4, 5, 6, 7, 8, 9, 10, 11, 12] 13 (by kernel_rfl) (by kernel_rfl) (by kernel_rfl) (fun _ _ d _ _ h => by cases d <;> exact h) HD.out ?_
          (try simp only [Act.put, List.setIfInBounds_toArray, List.set_cons_zero, List.set_cons_succ]); refine schE_last ?_; simp only [pickOps, List.getElem?_toArray, List.getElem?_cons_zero, List.getElem?_cons_succ]; (repeat (first | go_big_quiet_skip | (go_big_quiet_want; first | (go_big_quiet_op; first | go_big_quiet_on | ((first | with_reducible refine ⟨_, fun _ _ => rfl, ?_⟩); go_big_quiet_on)) | (simp (contextual := true) [go_sem, L0, L1]; with_reducible refine ⟨_, fun _ _ => rfl, ?_⟩; go_big_quiet_on)))); refine wpQuiet_nil ?_
          clear L0 L1
          go_wp2_with fail
          rw [HJW.out, drew_set]
          exact ⟨⟨i + 1, _, by omega, rfl, Lib.hid HS1.out.symm, HM5, HRS5, HO5⟩, by simp only [intOf, Int.toNat_natCast]; omega⟩
      · have HS := Lib.hid (show s = head1 f by rw [K1.out, List.take_of_length_le (by have := HLN.out; omega), HHL.out]; rfl)
        rw [HS.out] at K3
        have g0 : wr.cell? ⟨g, 0, none⟩ = some (.slice C' n c') := (K2.out.blk.cell 0).trans rfl
        have hmk2 : ∀ w, (Instr.makeSlice 51 (.int .i64 (n : Int)) (.int .i64 (n : Int))).run Tryd.prog w = .ok (.slice (some ⟨w.heap.size, 0, none⟩) n n) (w.alloc (.cells (madeCells #[.int .i64 0] n) 3)) :=
          run_make_row' _ _ _ _ Tryd.underlying51 Tryd.infoIg rfl _ _ n (by omega) (by omega)
        go_upto_region 12 with (fail)
        generalize hV5 : wr.alloc _ = V5
        have hB5 : Below wr.heap.size wr V5 := by rw [← hV5]; exact (Below.refl _ _).alloc (Nat.le_refl _) _
        have hA5 : Blk V5 wr.heap.size 3 (nis (List.replicate n 0)) := by rw [← hV5, ← made_int]; exact Blk.new wr _ _
        obtain ⟨ga, HGA⟩ : ∃ q, Hid (q = wr.heap.size) := ⟨_, Lib.hid rfl⟩
        rw [← HGA.out] at hA5
        rw [← HGA.out]
        have HA5 := Lib.hid hA5
        have HM5 := Lib.hid (K2.out.call hB5)
        have HRS5 := Lib.hid (K3.out.below hB5 K3.out.lt)
        have HGN := Lib.hid (show W.heap.size ≤ ga ∧ ga ≠ g ∧ ob C' ≠ some ga ∧ gS ≠ ga from ⟨by rw [HGA.out]; exact K2.out.low.size, by have := K2.out.blk.lt; rw [HGA.out]; omega, by rw [HGA.out]; exact K2.out.own.ne_ge (Nat.le_refl _), by have := K3.out.lt; rw [HGA.out]; omega⟩)
        have g5 : V5.cell? ⟨g, 0, none⟩ = some (.slice C' n c') := (HM5.out.blk.cell 0).trans rfl
        clear hV5 hB5 hA5 g0 hmk2 K1 K2 K3 K4 HSL HGA
        go_wp2_with fail
        go_step3
        go_wp2_with fail
        clear g5
        obtain ⟨wo, hwo⟩ : ∃ wo : World, wo = wr := ⟨_, rfl⟩
        clear hwo wr
        go_loopw [62] (fun vi wr => ∃ (p : Nat) (s : List Bool) (cnt al : List Nat), p ≤ n ∧ vi = .int .i64 p ∧ Hid (runF mx f p = (s, cnt)) ∧ Hid (AheadP (nxN f.code) n cnt p al) ∧ Hid (Mid W wr fb ⟨C, n, c, S, m, d⟩ f g gS C' n c') ∧ Hid (Blk wr gS 4 (boolVals s).toArray) ∧ Hid (Blk wr ga 3 (nis al))) (fun vi _ => n - (intOf vi).toNat)
        case atStart => exact ⟨0, head1 f, List.replicate n 0, List.replicate n 0, by omega, rfl, Lib.hid (by rw [← HCL.out]; rfl), Lib.hid AheadP.start, HM5, HRS5, HA5⟩
        case round =>
          obtain ⟨p, s, cnt, al, hp, rfl, K1, K2, K3, K4, K5⟩ := hrel
          have HMI5 := Lib.hid (show MI mx (nxN f.code) n (head1 f) p s cnt by have h1 := runF_inv mx f p (by rw [HCL.out]; exact hp); rw [K1.out, HCL.out] at h1; exact h1)
          by_cases hpn : p < n
          · have hps : p < s.length := by rw [HMI5.out.sl]; exact hpn
            have hpa : p < al.length := by rw [K2.out.1]; exact hpn
            have g1 : wr.cell? ⟨g, 1, none⟩ = some (.slice (some ⟨gS, 0, none⟩) n n) := (K3.out.blk.cell 1).trans rfl
            have cS : wr.cell? ⟨gS, p, none⟩ = some (.bool (s.getD p false)) := by rw [K4.out.cell]; simp [boolVals, hps]
            by_cases h0 : p = 0
            · have ho : openB s p = false := by unfold openB; rw [decide_eq_false (by omega)]; rfl
              have HS := Lib.hid (show runF mx f (p + 1) = (s, cnt) by rw [runF_succ, K1.out]; unfold stepM; rw [if_neg (by rw [ho]; decide)])
              have HA := Lib.hid (K2.out.skip (HMI5.out.shut p ho))
              have hz : ((p : Int) == 0) = true := by rw [h0]; rfl
              clear h0 ho hps hpa
              go_wp2_with fail
              exact ⟨⟨p + 1, s, cnt, al, by omega, by go_num, HS, HA, K3, K4, K5⟩, by simp [intOf]; omega⟩
            · have hz : ((p : Int) == 0) = false := beq_eq_false_iff_ne.2 (by omega)
              obtain ⟨v, HV⟩ : ∃ v, Hid (v = s.getD p false) := ⟨_, Lib.hid rfl⟩
              rw [← HV.out] at cS
              cases v with
              | true =>
                have ho : openB s p = false := by unfold openB; rw [← HV.out]; simp
                have HS := Lib.hid (show runF mx f (p + 1) = (s, cnt) by rw [runF_succ, K1.out]; unfold stepM; rw [if_neg (by rw [ho]; decide)])
                have HA := Lib.hid (K2.out.skip (HMI5.out.shut p ho))
                clear h0 ho hps hpa
                go_wp2_with fail
                exact ⟨⟨p + 1, s, cnt, al, by omega, by go_num, HS, HA, K3, K4, K5⟩, by simp [intOf]; omega⟩
              | false =>
                have ho : openB s p = true := by unfold openB; rw [← HV.out, decide_eq_true (by omega)]; rfl
                have cA : wr.cell? ⟨ga, p, none⟩ = some (.int .i64 (al.getD p 0 : Nat)) := by rw [K5.out.cell, nis_at _ _ hpa]
                obtain ⟨a1, HA1⟩ : ∃ k, Hid (k = al.getD p 0) := ⟨_, Lib.hid rfl⟩
                have HQ := Lib.hid (show 1 + a1 = cntUp (nxN f.code) cnt p p by rw [HA1.out]; exact K2.out.2 p hpn)
                have hq64 : a1 ≤ 64 := by
                  have h1 := cntUp_le (nx := nxN f.code) (cnt := cnt) (b := p) p p (fun k hk => by have := HMI5.out.few k hk; omega)
                  have h2 := HQ.out
                  omega
                rw [← HA1.out] at cA
                by_cases hq : mx < 1 + a1
                · have hgt : decide (max most 0 < (a1 : Int) + 1) = true := decide_eq_true (by rw [HMI.out]; omega)
                  have HS := Lib.hid (show runF mx f (p + 1) = (s.set p true, cnt) by rw [runF_succ, K1.out]; unfold stepM; rw [if_pos ho]; simp only; rw [← HQ.out, if_pos hq])
                  have HA := Lib.hid (K2.out.skip (HMI5.out.new p (Nat.le_refl _)).2)
                  have fS : wr.frozen? ⟨gS, p, none⟩ = false := K4.out.frozen p
                  have HRS6 := Lib.hid (show Blk (wr.setCell ⟨gS, p, none⟩ (.bool true)) gS 4 (boolVals (s.set p true)).toArray by have := K4.out.set_ p (.bool true); simpa [boolVals, List.map_set] using this)
                  have HM6 := Lib.hid (K3.out.mv (L := [gS]) ((Mv.refl _ _).set ⟨gS, p, none⟩ (.bool true) (by simp)) (by intro q hq; simp at hq; subst hq; exact ⟨K3.out.hgS, fun e => K3.out.hne e.symm, K3.out.hCS⟩))
                  have HA6 := Lib.hid (K5.out.far (p := ⟨gS, p, none⟩) (by exact Ne.symm HGN.out.2.2.2) (.bool true))
                  clear h0 ho hps hpa hq
                  go_wp2_with fail
                  exact ⟨⟨p + 1, _, cnt, al, by omega, by go_num, HS, HA, HM6, HRS6, HA6⟩, by simp [intOf]; omega⟩
                · have hgt : decide (max most 0 < (a1 : Int) + 1) = false := decide_eq_false (by rw [HMI.out]; omega)
                  have HS := Lib.hid (show runF mx f (p + 1) = (s, cnt.set p (1 + a1)) by rw [runF_succ, K1.out]; unfold stepM; rw [if_pos ho]; simp only; rw [← HQ.out, if_neg hq])
                  have HNX := Lib.hid (next_any K3.out.tab (K3.out.now K4.out HMI5.out.sl HCL.out (by omega)) (by omega) (p : Int))
                  rw [nxZ_nat] at HNX
                  simp only at HNX
                  obtain ⟨nl, HNL⟩ : ∃ l, Hid (l = nxN f.code p) := ⟨_, Lib.hid rfl⟩
                  rw [← HNL.out] at HNX
                  have g0 : wr.cell? ⟨g, 0, none⟩ = some (.slice C' n c') := (K3.out.blk.cell 0).trans rfl
                  have HI0 := Lib.hid (AheadI.start (q := 1 + a1) K2.out)
                  clear h0 ho hps hpa hq
                  go_upto_region 20 with (go_at_call 22; refine HNX.out.mono ?_; rintro e V6 ⟨LA, lc, rfl, ho, hb⟩; have HO6 := Lib.hid ho; have HB6 := Lib.hid hb; clear ho hb)
                  have HM6 := Lib.hid (K3.out.call HB6.out)
                  have HRS6 := Lib.hid (K4.out.below HB6.out K4.out.lt)
                  have HA6 := Lib.hid (K5.out.below HB6.out K5.out.lt)
                  obtain ⟨ln, HLNN⟩ : ∃ q, Hid (q = nl.length) := ⟨_, Lib.hid rfl⟩
                  obtain ⟨B6, HB6E⟩ : ∃ q, Hid (q = wr.heap.size) := ⟨_, Lib.hid rfl⟩
                  have HGA6 := Lib.hid (show ga < B6 by rw [HB6E.out]; exact K5.out.lt)
                  rw [← HLNN.out, ← HB6E.out] at HO6
                  rw [← HLNN.out]
                  clear g0 g1 cS cA
                  clear K3 K4 K5
                  obtain ⟨wp, hwp⟩ : ∃ wp : World, wp = wr := ⟨_, rfl⟩
                  go_loopw [91] (fun vi wr => ∃ (i : Nat) (al : List Nat), i ≤ ln ∧ vi = .int .i64 i ∧ Hid (AheadI (nxN f.code) n cnt p (1 + a1) i al) ∧ Hid (Mid W wr fb ⟨C, n, c, S, m, d⟩ f g gS C' n c') ∧ Hid (Blk wr gS 4 (boolVals s).toArray) ∧ Hid (Blk wr ga 3 (nis al)) ∧ Hid (Own wr B6 3 1 LA ln lc (ints (upI nl)))) (fun vi _ => ln - (intOf vi).toNat)
                  case atStart => exact ⟨0, al, by omega, rfl, HI0, HM6, HRS6, HA6, HO6⟩
                  case round =>
                    obtain ⟨i, al, hi, rfl, J1, J2, J3, J4, J5⟩ := hrel
                    by_cases hil : i < ln
                    · have HJW := Lib.hid (show wrap64 ((i : Int) + 1) = ((i + 1 : Nat) : Int) by have h1 := own_few J5.out; unfold maxLen at h1; unfold wrap64; omega)
                      have hi2 : i < nl.length := by rw [← HLNN.out]; exact hil
                      obtain ⟨z, HZ⟩ : ∃ y, Hid (y = nl[i]) := ⟨_, Lib.hid rfl⟩
                      have HZM := Lib.hid (show (nxN f.code p)[i]? = some z by rw [← HNL.out, HZ.out]; exact List.getElem?_eq_getElem hi2)
                      have hzn : z < n := by rw [← HCL.out]; exact nx_lt (List.mem_of_getElem? HZM.out)
                      obtain ⟨b, off, e0, hb, hcx⟩ := J5.out.row.at_ (k := i) (by simpa [ints, upI] using hi2)
                      subst e0
                      have c0 := hcx i (.int .i64 (z : Int)) (by simp [ints, upI, hi2, HZ.out])
                      have hza : z < al.length := by rw [J1.out.1]; exact hzn
                      have cz : wr.cell? ⟨ga, z, none⟩ = some (.int .i64 (al.getD z 0 : Nat)) := by rw [J4.out.cell, nis_at _ _ hza]
                      have fz : wr.frozen? ⟨ga, z, none⟩ = false := J4.out.frozen z
                      have HI1 := Lib.hid (J1.out.next HZM.out hzn)
                      have HA7 := Lib.hid (show Blk (wr.setCell ⟨ga, z, none⟩ (.int .i64 ((max (al.getD z 0) (1 + a1) : Nat) : Int))) ga 3 (nis (al.set z (max (al.getD z 0) (1 + a1)))) from nis_set al z _ ▸ J4.out.set_ z _)
                      obtain ⟨az, HAZ⟩ : ∃ k, Hid (k = al.getD z 0) := ⟨_, Lib.hid rfl⟩
                      rw [← HAZ.out] at cz HI1 HA7
                      have HM7 := Lib.hid (J2.out.mv (L := [ga]) ((Mv.refl _ _).set ⟨ga, z, none⟩ (.int .i64 ((max az (1 + a1) : Nat) : Int)) (by simp)) (by intro q hq; simp at hq; subst hq; exact ⟨HGN.out.1, HGN.out.2.1, HGN.out.2.2.1⟩))
                      have HRS7 := Lib.hid (J3.out.far (p := ⟨ga, z, none⟩) (by exact HGN.out.2.2.2) (.int .i64 ((max az (1 + a1) : Nat) : Int)))
                      have HO7 := Lib.hid (J5.out.setCell ⟨ga, z, none⟩ (.int .i64 ((max az (1 + a1) : Nat) : Int)) (J5.out.ne_lt HGA6.out))
                      have hmx2 : (max (az : Int) ((a1 : Int) + 1)) = ((max az (1 + a1) : Nat) : Int) := by omega
                      have HMX2 := Lib.hid hmx2
                      clear hb hcx HZ hi2 hza hmx2
                      go_wp2_with fail
                      rw [HJW.out, HMX2.out]
                      exact ⟨⟨i + 1, _, by omega, rfl, HI1, HM7, HRS7, HA7, HO7⟩, by simp only [intOf, Int.toNat_natCast]; omega⟩
                    · have HDN := Lib.hid (J1.out.done (by rw [← HNL.out, ← HLNN.out]; omega) (by rw [HMI5.out.cl]; exact hpn))
                      go_wp2_with fail
                      exact ⟨⟨p + 1, s, _, al, by omega, by go_num, HS, HDN, J2, J3, J4⟩, by simp [intOf]; omega⟩
          · have HPN := Lib.hid (show p = n by omega)
            have HRF := Lib.hid (show s = (markF mx f).safe by
              have h1 := K1.out
              rw [HPN.out, ← HCL.out] at h1
              show s = (runF mx f f.code.length).1
              rw [h1])
            have HSL := Lib.hid (show s.length = n from HMI5.out.sl)
            have HRBX := Lib.hid (HRX.out.below K3.out.low HRX.out.lt)
            have HRLT := Lib.hid (show rb < W.heap.size from HRX.out.lt)
            have L0 : ∀ w', S39 g gS n c' C' w' → w'.cell? ⟨g, 0, none⟩ = some (.slice C' n c') := fun w' h => h.1
            have L1 : ∀ w', S39 g gS n c' C' w' → w'.cell? ⟨g, 1, none⟩ = some (.slice (some ⟨gS, 0, none⟩) n n) := fun w' h => h.2
            have hbd : Below wr.heap.size wr wr.drew := (Below.refl _ _).drew
            have HMD := Lib.hid (K3.out.call hbd)
            have HCO2 := Lib.hid (cost_any (w := wr.drew) (C := C') (S := some ⟨gS, 0, none⟩) (n := n) (c := c') (m := n) (d := n) s (row_of_blk K4.out.drew K4.out.drew.lt) HSL.out hn hn)
            obtain ⟨now, HNOW⟩ : ∃ k, Hid (k = s.count true) := ⟨_, Lib.hid rfl⟩
            rw [← HNOW.out] at HCO2
            have hnow : now ≤ 64 := by rw [HNOW.out]; exact Nat.le_trans List.count_le_length (by rw [HSL.out]; omega)
            have hwas : was ≤ 64 := by rw [HWAS.out]; exact Nat.le_trans List.count_le_length (by rw [safe0_len, HCL.out]; omega)
            go_wp2_with fail
            refine region_sch (S39 g gS n c' C') [([0, 1, 3], 2), ([4], 5)] [6] (by kernel_rfl) (by kernel_rfl) (by kernel_rfl) (fun _ _ d _ _ h => by cases d <;> exact h) ⟨(HMD.out.blk.cell 0).trans rfl, (HMD.out.blk.cell 1).trans rfl⟩ ?_
            (try simp only [Act.put, List.setIfInBounds_toArray, List.set_cons_zero, List.set_cons_succ]); refine sch_seg ?_; simp only [pickOps, List.getElem?_toArray, List.getElem?_cons_zero, List.getElem?_cons_succ]; (repeat (first | go_big_quiet_skip | (go_big_quiet_want; first | (go_big_quiet_op; first | go_big_quiet_on | ((first | with_reducible refine ⟨_, fun _ _ => rfl, ?_⟩); go_big_quiet_on)) | (simp (contextual := true) [go_sem, L0, L1]; with_reducible refine ⟨_, fun _ _ => rfl, ?_⟩; go_big_quiet_on)))); refine wpQuiet_nil ?_
            go_wp2_with fail
            refine HCO2.out.mono ?_
            rintro e w6 ⟨rfl, hb⟩
            have HM6 := Lib.hid (HMD.out.call hb)
            have HRS6 := Lib.hid (K4.out.drew.below hb K4.out.drew.lt)
            have HRB6 := Lib.hid (HRBX.out.drew.below hb HRBX.out.drew.lt)
            clear hb
            go_wp2_with fail
            refine ⟨S39 g gS n c' C', ⟨(HM6.out.blk.cell 0).trans rfl, (HM6.out.blk.cell 1).trans rfl⟩, fun _ h => h, ?_⟩
            (try simp only [Act.put, List.setIfInBounds_toArray, List.set_cons_zero, List.set_cons_succ]); refine sch_seg ?_; simp only [pickOps, List.getElem?_toArray, List.getElem?_cons_zero, List.getElem?_cons_succ]; (repeat (first | go_big_quiet_skip | (go_big_quiet_want; first | (go_big_quiet_op; first | go_big_quiet_on | ((first | with_reducible refine ⟨_, fun _ _ => rfl, ?_⟩); go_big_quiet_on)) | (simp (contextual := true) [go_sem, L0, L1]; with_reducible refine ⟨_, fun _ _ => rfl, ?_⟩; go_big_quiet_on)))); refine wpQuiet_nil ?_
            have r0 : w6.cell? ⟨rb, 0, none⟩ = some (.slice none 0 0) := (HRB6.out.cell 0).trans rfl
            have r1 : w6.cell? ⟨rb, 1, none⟩ = some (.slice none 0 0) := (HRB6.out.cell 1).trans rfl
            have r2 : w6.frozen? ⟨rb, 0, none⟩ = false := HRB6.out.frozen 0
            have r3 : w6.frozen? ⟨rb, 1, none⟩ = false := HRB6.out.frozen 1
            obtain ⟨w7, HW7⟩ : ∃ x, Hid (x = (w6.setCell ⟨rb, 0, none⟩ (.slice C' n c')).setCell ⟨rb, 1, none⟩ (.slice (some ⟨gS, 0, none⟩) n n)) := ⟨_, Lib.hid rfl⟩
            have HM7 := Lib.hid (show Blk w7 g 39 #[.slice C' n c', .slice (some ⟨gS, 0, none⟩) n n] by rw [HW7.out]; exact (HM6.out.blk.far (p := ⟨rb, 0, none⟩) (by have h1 := HRLT.out; have h2 := HM6.out.hg; show g ≠ rb; omega) _).far (p := ⟨rb, 1, none⟩) (by have h1 := HRLT.out; have h2 := HM6.out.hg; show g ≠ rb; omega) _)
            have HO7 := Lib.hid (show Own w7 W.heap.size 43 5 C' n c' (f.code.flatMap insVals) by
              have h1 := HM6.out.own.setCell ⟨rb, 0, none⟩ (.slice C' n c') (HM6.out.own.ne_lt HRLT.out)
              have h2 := h1.setCell ⟨rb, 1, none⟩ (.slice (some ⟨gS, 0, none⟩) n n) (h1.ne_lt HRLT.out)
              rw [HW7.out]
              exact h2)
            have HRS7 := Lib.hid (show Blk w7 gS 4 (boolVals s).toArray by rw [HW7.out]; exact (HRS6.out.far (p := ⟨rb, 0, none⟩) (by have h1 := HRLT.out; have h2 := HM6.out.hgS; show gS ≠ rb; omega) _).far (p := ⟨rb, 1, none⟩) (by have h1 := HRLT.out; have h2 := HM6.out.hgS; show gS ≠ rb; omega) _)
            have HR7 := Lib.hid (show w7.cell? ⟨rb, 0, none⟩ = some (.slice C' n c') ∧ w7.cell? ⟨rb, 1, none⟩ = some (.slice (some ⟨gS, 0, none⟩) n n) by
              have h := ((HRB6.out.set_ 0 (.slice C' n c')).set_ 1 (.slice (some ⟨gS, 0, none⟩) n n))
              rw [← HW7.out] at h
              exact ⟨(h.cell 0).trans rfl, (h.cell 1).trans rfl⟩)
            have HB7 := Lib.hid (show Below w.heap.size w w7 by
              have h1 := HB0.out.trans ((HWB.out.trans (HM6.out.low.mono HWB.out.size)).mono HB0.out.size)
              rw [HW7.out]
              exact (h1.setCell (by show _ ≤ rb; rw [HRB.out]; omega) _).setCell (by show _ ≤ rb; rw [HRB.out]; omega) _)
            have HWW := Lib.hid (show w.heap.size ≤ W.heap.size from Nat.le_trans HB0.out.size HWB.out.size)
            have HFS := Lib.hid (show FnS w7 (fun b => w.heap.size ≤ b ∧ b < w7.heap.size) ⟨C', n, c', some ⟨gS, 0, none⟩, n, n⟩ (markF mx f) from
              ⟨HCL.out.symm, by rw [← HRF.out]; exact HSL.out.symm, HO7.out.rowS.mono fun b hb => ⟨Nat.le_trans HWW.out hb.1, hb.2⟩, by
                rw [← HRF.out]
                exact (Blk.rowS HRS7.out).mono fun b hb => by subst hb; exact ⟨Nat.le_trans HWW.out HNEQ.out.2.1, HRS7.out.lt⟩, by simp only [maxLen]; omega, by simp only [maxLen]; omega, HM6.out.fnok.2.2.2.2.2.2⟩)
            have HMORE := Lib.hid (show moreF mx f = (now : Int) - (was : Int) by unfold moreF; rw [← HRF.out, HNOW.out, HWAS.out])
            go_wp2_with fail
            rw [← HW7.out]
            refine ⟨S39 g gS n c' C', ⟨(HM7.out.cell 0).trans rfl, (HM7.out.cell 1).trans rfl⟩, fun _ h => h, ?_⟩
            (try simp only [Act.put]); refine sch_end ?_; simp only [pickOps, List.getElem?_toArray, List.getElem?_cons_zero, List.getElem?_cons_succ]; (repeat (first | go_big_quiet_skip | (go_big_quiet_want; first | (go_big_quiet_op; first | go_big_quiet_on | ((first | with_reducible refine ⟨_, fun _ _ => rfl, ?_⟩); go_big_quiet_on)) | (simp (contextual := true) [go_sem, L0, L1]; with_reducible refine ⟨_, fun _ _ => rfl, ?_⟩; go_big_quiet_on)))); refine wpQuiet_nil ?_
            have q0 := HR7.out.1
            have q1 := HR7.out.2
            clear L0 L1 r0 r1 r2 r3
            go_wp2_with fail
            rw [Exit.noGoto_ret]
            refine bodyPost_ret (v := .tuple #[.agg #[.slice C' n c', .slice (some ⟨gS, 0, none⟩) n n], .int .i64 ((now : Int) - (was : Int))]) (by simp [results, Tryd.results12, go_sem, q0, q1]) rfl ?_
            exact ⟨⟨C', n, c', some ⟨gS, 0, none⟩, n, n⟩, by rw [HMORE.out], HFS.out, HB7.out⟩
end Go.Proofs.YtfgaonkoaolffaaDoor

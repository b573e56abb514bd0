/-
  Chapter 39: mark.Program and the reference's Program. Conditions: the table is laid, the program lies in memory.
-/
import Derived.Test.YtfgaonkoaolffaaDoorRfn39
import Derived.Test.YtfgaonkoaolffaaDoorCheck9
namespace Go.Proofs.YtfgaonkoaolffaaDoor
open Go.RowKit
/-- The blocks that are not the result's own box, nor its row. -/
def OffR (w : World) (g x : Nat) (G : Option Addr) (b : Nat) : Prop := b < w.heap.size ∧ (b ≠ g ∧ b ≠ x) ∧ ob G ≠ some b
/-- The result so far. -/
structure PI (w0 wr : World) (x rb base k cG : Nat) (G : Option Addr) (al : List FnA) (gs : List Fn) : Prop where
  box : Blk wr rb 24 #[.slice G k cG]
  own : Own wr base 39 2 G k cG (al.flatMap fnaVals)
  fns : FnsAt wr (OffR wr rb x G) al gs
  low : Below w0.heap.size w0 wr
  len : gs.length = k
  hb : rb < base
  hrb : w0.heap.size ≤ rb
  hbs : base ≤ wr.heap.size
  hx : w0.heap.size ≤ x ∧ x < base
section
variable {w0 wr w1 : World} {x rb base k cG c2 : Nat} {G A' : Option Addr} {al : List FnA} {gs : List Fn} {a : FnA} {f : Fn} {o : Obj}
theorem PI.call (h : PI w0 wr x rb base k cG G al gs) (hb : Below wr.heap.size wr w1) : PI w0 w1 x rb base k cG G al gs :=
  ⟨h.box.below hb h.box.lt, own_low h.own hb, (h.fns.keep fun b hS => hb.block b hS.1).mono fun _ hS => ⟨Nat.lt_of_lt_of_le hS.1 hb.size, hS.2⟩, h.low.trans (hb.mono h.low.size), h.len, h.hb, h.hrb, Nat.le_trans h.hbs hb.size, h.hx⟩
theorem PI.push (h : PI w0 wr x rb base k cG G al gs) (hf : FnS wr (OffR wr rb x G) a f) (hown : Own w1 base 39 2 A' (k + 1) c2 (al.flatMap fnaVals ++ fnaVals a)) (hg : (wr.alloc o).grownBy w1 (ob G)) (hat : ob A' = ob G ∨ ob A' = some (wr.alloc o).heap.size) :
    PI w0 (w1.setCell ⟨rb, 0, none⟩ (.slice A' (k + 1) c2)) x rb base (k + 1) c2 A' (al ++ [a]) (gs ++ [f]) := by
  have hbox := (after_append h.box hg h.own h.hb).1
  have hsz := hg.size
  rw [World.size_alloc] at hsz
  have hfn : FnsAt w1 (OffR w1 rb x A') (al ++ [a]) (gs ++ [f]) := by
    refine ((h.fns.snoc hf).keep fun b hS => ?_).mono fun b hS => ⟨?_, hS.2.1, ?_⟩
    · exact (hg.block b (by rw [World.size_alloc]; have := hS.1; omega) (fun e => hS.2.2 e.symm)).trans (Below.heap_alloc _ _ _ hS.1)
    · have := hS.1
      omega
    · rcases hat with e | e
      · rw [e]; exact hS.2.2
      · rw [e, World.size_alloc]
        intro e'
        injection e' with e'
        have := hS.1
        omega
  refine ⟨?_, ?_, (hfn.keep fun b hS => Below.heap_setCell _ _ _ _ hS.2.1.1).mono fun b hS => ⟨by simpa [World.setCell] using hS.1, hS.2⟩, (below_append h.low h.own (Nat.le_trans h.hrb (Nat.le_of_lt h.hb)) h.low.size hg).setCell (by exact h.hrb) _, by rw [List.length_append, h.len]; rfl, h.hb, h.hrb, by have := h.hbs; simp [World.setCell]; omega, h.hx⟩
  · have := hbox.set_ 0 (.slice A' (k + 1) c2)
    simpa using this
  · rw [List.flatMap_append]
    simpa using hown.setCell ⟨rb, 0, none⟩ (.slice A' (k + 1) c2) (hown.ne_lt h.hb)
/-- The result in memory, whatever is written into the boxes of the call's own. -/
theorem PI.ok (h : PI w0 wr x rb base k cG G al gs) : FnsOk wr wr.heap.size G gs := h.fns.ok (fun _ hS => hS.1) h.own.rowN
theorem PI.put (h : PI w0 wr x rb base k cG G al gs) (v : Value) : FnsOk (wr.setCell ⟨rb, 0, none⟩ v) (wr.setCell ⟨rb, 0, none⟩ v).heap.size G gs ∧ Below w0.heap.size w0 (wr.setCell ⟨rb, 0, none⟩ v) :=
  ⟨((h.fns.keep fun b hS => Below.heap_setCell _ _ _ _ hS.2.1.1).mono (S' := fun b => b < (wr.setCell ⟨rb, 0, none⟩ v).heap.size) fun b hS => (by simpa [World.setCell] using hS.1)).ok (fun _ hS => hS) (h.own.setCell ⟨rb, 0, none⟩ v (h.own.ne_lt h.hb)).rowN, h.low.setCell (by exact h.hrb) _⟩
theorem PI.putx (h : PI w0 wr x rb base k cG G al gs) (v : Value) : FnsOk (wr.setCell ⟨x, 0, none⟩ v) (wr.setCell ⟨x, 0, none⟩ v).heap.size G gs ∧ Below w0.heap.size w0 (wr.setCell ⟨x, 0, none⟩ v) :=
  ⟨((h.fns.keep fun b hS => Below.heap_setCell _ _ _ _ hS.2.1.2).mono (S' := fun b => b < (wr.setCell ⟨x, 0, none⟩ v).heap.size) fun b hS => (by simpa [World.setCell] using hS.1)).ok (fun _ hS => hS) (h.own.setCell ⟨x, 0, none⟩ v (h.own.ne_lt h.hx.2)).rowN, h.low.setCell (by exact h.hx.1) _⟩
end
theorem cells2' {w : World} {x y : Value} {ad : Addr} (h0 : w.cell? (ad.add 0) = some x) (h1 : w.cell? (ad.add 1) = some y) : ∀ j u, [x, y][j]? = some u → w.cell? (ad.add j) = some u := by
  intro j u hu
  match j, hu with
  | 0, hu => simp at hu; rw [← hu]; exact h0
  | 1, hu => simp at hu; rw [← hu]; exact h1
def allK (mx : Nat) (fs : List Fn) (k : Nat) : Int := allM mx (fs.take k)
theorem allK_succ (mx : Nat) (fs : List Fn) (k : Nat) (hk : k < fs.length) : allK mx fs (k + 1) = allK mx fs k + moreF mx fs[k] := by
  unfold allK allM
  have e : fs.take (k + 1) = fs.take k ++ [fs[k]] := by rw [List.take_add_one, List.getElem?_eq_getElem hk]; rfl
  rw [e, List.foldl_append]
  rfl
theorem allK_few (mx : Nat) (fs : List Fn) (hl : ∀ i (h : i < fs.length), fs[i].code.length ≤ 64) (k : Nat) (hk : k ≤ fs.length) : 0 ≤ allK mx fs k ∧ allK mx fs k ≤ 64 * k := by
  induction k with
  | zero => unfold allK allM; simp
  | succ k ih =>
    have h1 := ih (by omega)
    rw [allK_succ mx fs k (by omega)]
    have h2 := more_nat mx fs[k]
    have h3 := hl k (by omega)
    omega
theorem markP_snoc (mx : Nat) (fs : List Fn) (k : Nat) (hk : k < fs.length) : markP mx (fs.take (k + 1)) = markP mx (fs.take k) ++ [markF mx fs[k]] := by
  have e : fs.take (k + 1) = fs.take k ++ [fs[k]] := by rw [List.take_add_one, List.getElem?_eq_getElem hk]; rfl
  unfold markP
  rw [e, List.map_append]
  rfl
theorem check_few {fs : List Fn} (h : (checkP fs).2.2 = 0) : fs.length ≤ 16 ∧ ∀ i (hi : i < fs.length), fs[i].code.length ≤ 64 ∧ fs[i].safe.length ≤ 64 := by
  obtain ⟨h0, h16, hf⟩ := check_parts h
  refine ⟨by omega, fun i hi => ?_⟩
  have h1 := hf i hi
  unfold fnAt at h1
  rw [show fs.getD i noFn = fs[i] by simp [hi]] at h1
  obtain ⟨-, h2, h3, -⟩ := fn_ok_parts h1
  omega
/-- What Program answers. -/
def ProgOut (w : World) (mx : Nat) (fs : List Fn) (e : Ending) (w' : World) : Prop :=
  Below w.heap.size w w' ∧ (((checkP fs).2.2 ≠ 0 ∧ e = .returned (.tuple #[.agg #[.slice none 0 0], .int .i64 0, .int .i64 1])) ∨
    ((checkP fs).2.2 = 0 ∧ ∃ G cG, e = .returned (.tuple #[.agg #[.slice G fs.length cG], .int .i64 (allM mx fs), .int .i64 0]) ∧ FnsOk w' w'.heap.size G (markP mx fs)))
set_option maxRecDepth 100000 in
set_option maxHeartbeats 8000000 in
theorem prog_any (A : Option Addr) (c : Nat) (fs : List Fn) (most : Int) (w : World) (hT : Tab w) (hm : fs.length ≤ maxLen) (hf : FnsOk w w.heap.size A fs) :
    Calls Tryd.prog 7 #[.agg #[.slice A fs.length c], .int .i64 most] w (ProgOut w (max most 0).toNat fs) := by
  obtain ⟨mx, HMX⟩ : ∃ k, Hid (k = (max most 0).toNat) := ⟨_, Lib.hid rfl⟩
  rw [← HMX.out]
  obtain ⟨W, HW⟩ : ∃ W, Hid (W = (w.alloc (.cells #[.slice A fs.length c] 24)).alloc (.cells #[.slice none 0 0] 24)) := ⟨_, Lib.hid rfl⟩
  obtain ⟨pb, HPB⟩ : ∃ q, Hid (q = w.heap.size) := ⟨_, Lib.hid rfl⟩
  obtain ⟨rb, HRB⟩ : ∃ q, Hid (q = w.heap.size + 1) := ⟨_, Lib.hid rfl⟩
  obtain ⟨b1, b2, hbw⟩ := two_blk w 24 24 #[.slice A fs.length c] #[.slice none 0 0]
  rw [← HW.out] at b1 b2 hbw
  rw [← HPB.out] at b1
  rw [← HRB.out] at b2
  have HB := Lib.hid hbw
  have HP := Lib.hid b1
  have HR := Lib.hid b2
  have HF0 := Lib.hid hf
  have HF := Lib.hid (hf.step hbw)
  have HT := Lib.hid hT
  obtain ⟨i0, hi, hz0, hz1, hz2⟩ := info_parts Tryd.infoFn
  have HI0 := Lib.hid hi
  have HZ0 := Lib.hid hz0
  have HZ1 := Lib.hid hz1
  have HZ2 := Lib.hid hz2
  clear hi hz0 hz1 hz2
  have HCH := Lib.hid (checkP_any A c fs W (hT.step hbw) hm (hf.step hbw))
  obtain ⟨n, HN⟩ : ∃ n, Hid (n = fs.length) := ⟨_, Lib.hid rfl⟩
  have HEND := Lib.hid (fun (e : Ending) (w' : World) (h : ProgOut w mx fs e w') => h)
  rw [← HN.out] at HCH HP HW hm ⊢
  obtain ⟨ch, HCHE⟩ : ∃ x, Hid (x = checkP fs) := ⟨_, Lib.hid rfl⟩
  rw [← HCHE.out] at HCH
  obtain ⟨x0, x1, x2⟩ := ch
  unfold tri at HCH
  have p0 : W.cell? ⟨pb, 0, none⟩ = some (.slice A n c) := (HP.out.cell 0).trans rfl
  have hw := HW.out
  have hpb := HPB.out
  have hrb := HRB.out
  clear hT hf b1 b2 hbw
  by_cases hx : x2 = 0
  · subst hx
    have HOK := Lib.hid (show (checkP fs).2.2 = 0 by rw [← HCHE.out])
    obtain ⟨h16, hfew⟩ := check_few HOK.out
    have HFEW := Lib.hid hfew
    have hn16 : n ≤ 16 := by rw [HN.out]; exact h16
    clear h16 hfew hm
    go_enter Tryd.func7, Tryd.ntmps7
    go_upto_region 1 with (fail)
    rw [← hw, ← hrb, ← hpb]
    clear hw hpb hrb
    go_upto_region 4 with (go_at_call 13; refine HCH.out.mono ?_; rintro e W1 ⟨rfl, hb1⟩; have HB1 := Lib.hid hb1; have p1 : W1.cell? ⟨pb, 0, none⟩ = some (.slice A n c) := ((HP.out.below hb1 HP.out.lt).cell 0).trans rfl; clear hb1)
    clear p0
    have HPI := Lib.hid (show PI w W1 rb rb W1.heap.size 0 0 none [] (markP mx (fs.take 0)) from ⟨HR.out.below HB1.out HR.out.lt, Own.nil _ _ _ _, FnsAt.nil _ _, HB.out.trans (HB1.out.mono HB.out.size), rfl, (HR.out.below HB1.out HR.out.lt).lt, by rw [HRB.out]; omega, Nat.le_refl _, by rw [HRB.out]; omega, (HR.out.below HB1.out HR.out.lt).lt⟩)
    have HWW := Lib.hid (show Below W.heap.size W W1 from HB1.out)
    obtain ⟨base, HBASE⟩ : ∃ q, Hid (q = W1.heap.size) := ⟨_, Lib.hid rfl⟩
    rw [← HBASE.out] at HPI
    go_upto_region 5 with (fail)
    clear p1
    go_loopw [5, 26] (fun v5 vi wr => ∃ (k cG : Nat) (G : Option Addr) (al : List FnA), k ≤ n ∧ vi = .int .i64 k ∧ v5 = .int .i64 (allK mx fs k) ∧ Hid (PI w wr rb rb base k cG G al (markP mx (fs.take k)))) (fun _ vi _ => n - (intOf vi).toNat)
    case atStart => exact ⟨0, 0, none, [], by omega, rfl, rfl, HPI⟩
    case round =>
      obtain ⟨k, cG, G, al, hk, rfl, rfl, K1⟩ := hrel
      obtain ⟨q, HQ⟩ : ∃ x, Hid (x = allK mx fs k) := ⟨_, Lib.hid rfl⟩
      rw [← HQ.out]
      have hq := allK_few mx fs (fun i hi => (HFEW.out i hi).1) k (by rw [← HN.out]; exact hk)
      rw [← HQ.out] at hq
      by_cases hlt : k < n
      · have hkf : k < fs.length := by rw [← HN.out]; exact hlt
        obtain ⟨b, off, a, eA, hbb, c0, c1, hfn⟩ := (HF0.out.below K1.out.low).at_ k hkf
        subst eA
        obtain ⟨C, fn, fc, S, sm, sd⟩ := a
        simp only at c0 c1
        have HMS := Lib.hid (markP_snoc mx fs k hkf)
        have HAS := Lib.hid (allK_succ mx fs k hkf)
        have hmo := more_nat mx fs[k]
        have hf64 := HFEW.out k hkf
        obtain ⟨f, HFE⟩ : ∃ f, Hid (f = fs[k]) := ⟨_, Lib.hid rfl⟩
        rw [← HFE.out] at hfn HMS HAS hmo hf64
        have HFN := Lib.hid hfn
        have h1 : fn ≤ 64 := by have := HFN.out.1; simp only at this; omega
        have h2 : sm ≤ 64 := by have := HFN.out.2.1; simp only at this; omega
        obtain ⟨mo, HMO⟩ : ∃ x, Hid (x = moreF mx f) := ⟨_, Lib.hid rfl⟩
        rw [← HQ.out, ← HMO.out] at HAS
        rw [← HMO.out] at hmo
        have hmo2 : mo ≤ 64 := by omega
        clear hfn hbb hf64
        go_upto_region 7 with (fail)
        obtain ⟨V, HV⟩ : ∃ V, Hid (V = wr.alloc (.cells #[.slice C fn fc, .slice S sm sd] 39)) := ⟨_, Lib.hid rfl⟩
        have HBV := Lib.hid (show Below wr.heap.size wr V by rw [HV.out]; exact (Below.refl _ _).alloc (Nat.le_refl _) _)
        have HPV := Lib.hid (K1.out.call HBV.out)
        have HTA := Lib.hid (HT.out.step HPV.out.low)
        have HFU := Lib.hid (func_any most HTA.out ((HFN.out.more (K1.out.low.size)).step HBV.out) h1 h2)
        rw [← HMX.out, HV.out] at HFU
        rw [← HMO.out] at HFU
        clear c0 c1
        go_upto_region 8 with (go_at_call 12; refine HFU.out.mono ?_; rintro e V1 ⟨a', rfl, hfs, hb⟩; have HFS := Lib.hid hfs; have HB1V := Lib.hid (show Below V.heap.size V V1 by rw [HV.out]; exact hb); have HVS := Lib.hid (show (wr.alloc (.cells #[.slice C fn fc, .slice S sm sd] 39)).heap.size = V.heap.size by rw [HV.out]); rw [HVS.out] at HFS; clear hfs hb)
        have HPV1 := Lib.hid (HPV.out.call HB1V.out)
        have HFS1 := Lib.hid (show FnS V1 (OffR V1 rb rb G) a' (markF mx f) from HFS.out.mono fun b hb => ⟨hb.2, ⟨by have := HPV.out.box.lt; omega, by have := HPV.out.box.lt; omega⟩, fun e => by have := (HPV.out.own.lt b e).2; omega⟩)
        obtain ⟨X, HX⟩ : ∃ V, Hid (V = V1.alloc (.cells #[.slice a'.C a'.n a'.c, .slice a'.S a'.m a'.d] 39)) := ⟨_, Lib.hid rfl⟩
        rw [← HX.out]
        have HBXV := Lib.hid (show Below V1.heap.size V1 X by rw [HX.out]; exact (Below.refl _ _).alloc (Nat.le_refl _) _)
        have HPX := Lib.hid (HPV1.out.call HBXV.out)
        have HFX := Lib.hid (show FnS X (OffR X rb rb G) a' (markF mx f) from (HFS1.out.keep fun b hS => HBXV.out.block b hS.1).mono fun b hS => ⟨Nat.lt_of_lt_of_le hS.1 HBXV.out.size, hS.2⟩)
        have HNB := Lib.hid (show Blk X V1.heap.size 39 #[.slice a'.C a'.n a'.c, .slice a'.S a'.m a'.d] by rw [HX.out]; exact Blk.new V1 _ _)
        have r0 : X.cell? ⟨rb, 0, none⟩ = some (.slice G k cG) := (HPX.out.box.cell 0).trans rfl
        have r1 : X.cell? ⟨V1.heap.size, 0, none⟩ = some (.slice a'.C a'.n a'.c) := (HNB.out.cell 0).trans rfl
        have r2 : X.cell? ⟨V1.heap.size, 1, none⟩ = some (.slice a'.S a'.m a'.d) := (HNB.out.cell 1).trans rfl
        obtain ⟨hq0, hq1⟩ := hq
        obtain ⟨hm0, hm1⟩ := hmo
        go_wp2_with (at_builtin; go_must (refine wpList_append_1 _ rfl _ _ 22 rfl base 39 i0 _ 2 48 Tryd.underlying22 HI0.out HZ0.out HZ1.out HZ2.out rfl (by decide) _ _ _ _ rfl (HPX.out.own.alloc _) ⟨X.heap.size, 0, none⟩ 1 (fnaVals a') rfl rfl (cells2' (by simp [go_sem]) (by simp [go_sem])) (by simp [fnaVals, Value.oneCell']) (by unfold maxLen; omega) (by omega) (by rw [World.size_alloc]; have h := HPX.out.hbs; omega) ?_); intro A' c2 w5 hown1 hgrow1 hat1; have HOW := Lib.hid hown1; have HGR := Lib.hid hgrow1; have HAT := Lib.hid hat1; have hbx5 := (after_append HPX.out.box hgrow1 HPX.out.own HPX.out.hb).1; have s0 : w5.cell? ⟨rb, 0, none⟩ = some (.slice G k cG) := (hbx5.cell 0).trans rfl; have s1 : w5.frozen? ⟨rb, 0, none⟩ = false := hbx5.frozen 0; clear hown1 hgrow1 hat1 hbx5)
        exact ⟨⟨k + 1, c2, A', al ++ [a'], by omega, by go_num, by rw [HAS.out], Lib.hid (by rw [HMS.out]; exact HPX.out.push HFX.out HOW.out HGR.out HAT.out)⟩, by simp [intOf]; omega⟩
      · obtain rfl : k = n := by omega
        have HALL := Lib.hid (show allM mx fs = q by rw [HQ.out]; unfold allK; rw [List.take_of_length_le (by rw [← HN.out]; exact Nat.le_refl _)])
        have HTK := Lib.hid (show fs.take k = fs from List.take_of_length_le (by rw [← HN.out]; exact Nat.le_refl _))
        rw [HTK.out] at K1
        have r0 : wr.cell? ⟨rb, 0, none⟩ = some (.slice G k cG) := (K1.out.box.cell 0).trans rfl
        have r1 : wr.frozen? ⟨rb, 0, none⟩ = false := K1.out.box.frozen 0
        have HPUT := Lib.hid (K1.out.put (.slice G k cG))
        have r2 : (wr.setCell ⟨rb, 0, none⟩ (.slice G k cG)).cell? ⟨rb, 0, none⟩ = some (.slice G k cG) := ((K1.out.box.set_ 0 (.slice G k cG)).cell 0).trans rfl
        go_wp2_with fail
        refine bodyPost_ret (v := .tuple #[.agg #[.slice G k cG], .int .i64 q, .int .i64 0]) (by simp [results, Tryd.results7, go_sem, r2]) rfl ?_
        exact ⟨HPUT.out.2, .inr ⟨HOK.out, G, cG, by rw [HALL.out, HN.out], HPUT.out.1⟩⟩
  · have hx' : (x2 != 0) = true := by simpa using hx
    have HBAD := Lib.hid (show (checkP fs).2.2 ≠ 0 by rw [← HCHE.out]; exact hx)
    clear hx hm
    go_enter Tryd.func7, Tryd.ntmps7
    go_upto_region 1 with (fail)
    rw [← hw, ← hrb, ← hpb]
    clear hw hpb hrb
    go_wp2_with (go_at_call 13; refine HCH.out.mono ?_; rintro e W1 ⟨rfl, hb1⟩; have HB1 := Lib.hid hb1; have HR1 := Lib.hid (HR.out.below hb1 HR.out.lt); have r0 : W1.cell? ⟨rb, 0, none⟩ = some (.slice none 0 0) := (HR1.out.cell 0).trans rfl; have r1 : W1.frozen? ⟨rb, 0, none⟩ = false := HR1.out.frozen 0; clear hb1)
    have r2 : (W1.setCell ⟨rb, 0, none⟩ (.slice none 0 0)).cell? ⟨rb, 0, none⟩ = some (.slice none 0 0) := ((HR1.out.set_ 0 (.slice none 0 0)).cell 0).trans rfl
    refine bodyPost_ret (v := .tuple #[.agg #[.slice none 0 0], .int .i64 0, .int .i64 1]) (by simp [results, Tryd.results7, go_sem, r2]) rfl ?_
    exact ⟨(HB.out.trans (HB1.out.mono HB.out.size)).setCell (by show _ ≤ rb; rw [HRB.out]; omega) _, .inl ⟨HBAD.out, rfl⟩⟩
set_option maxRecDepth 100000 in
set_option maxHeartbeats 8000000 in
theorem rprog_any (A : Option Addr) (c : Nat) (fs : List Fn) (most : Int) (w : World) (hm : fs.length ≤ maxLen) (hf : FnsOk w w.heap.size A fs) :
    Calls Tryd.prog 8 #[.agg #[.slice A fs.length c], .int .i64 most] w (ProgOut w (max most 0).toNat fs) := by
  obtain ⟨mx, HMX⟩ : ∃ k, Hid (k = (max most 0).toNat) := ⟨_, Lib.hid rfl⟩
  rw [← HMX.out]
  obtain ⟨W, HW⟩ : ∃ W, Hid (W = (w.alloc (.cells #[.slice A fs.length c] 24)).alloc (.cells #[.slice none 0 0] 24)) := ⟨_, Lib.hid rfl⟩
  obtain ⟨pb, HPB⟩ : ∃ q, Hid (q = w.heap.size) := ⟨_, Lib.hid rfl⟩
  obtain ⟨rb, HRB⟩ : ∃ q, Hid (q = w.heap.size + 1) := ⟨_, Lib.hid rfl⟩
  obtain ⟨b1, b2, hbw⟩ := two_blk w 24 24 #[.slice A fs.length c] #[.slice none 0 0]
  rw [← HW.out] at b1 b2 hbw
  rw [← HPB.out] at b1
  rw [← HRB.out] at b2
  have HB := Lib.hid hbw
  have HP := Lib.hid b1
  have HR := Lib.hid b2
  have HF0 := Lib.hid hf
  have HF := Lib.hid (hf.step hbw)
  obtain ⟨i0, hi, hz0, hz1, hz2⟩ := info_parts Tryd.infoFn
  have HI0 := Lib.hid hi
  have HZ0 := Lib.hid hz0
  have HZ1 := Lib.hid hz1
  have HZ2 := Lib.hid hz2
  clear hi hz0 hz1 hz2
  have HCH := Lib.hid (rcheckP_any A c fs W hm (hf.step hbw))
  obtain ⟨n, HN⟩ : ∃ n, Hid (n = fs.length) := ⟨_, Lib.hid rfl⟩
  have HEND := Lib.hid (fun (e : Ending) (w' : World) (h : ProgOut w mx fs e w') => h)
  rw [← HN.out] at HCH HP HW hm ⊢
  obtain ⟨ch, HCHE⟩ : ∃ x, Hid (x = checkP fs) := ⟨_, Lib.hid rfl⟩
  rw [← HCHE.out] at HCH
  obtain ⟨x0, x1, x2⟩ := ch
  unfold tri at HCH
  have p0 : W.cell? ⟨pb, 0, none⟩ = some (.slice A n c) := (HP.out.cell 0).trans rfl
  have hw := HW.out
  have hpb := HPB.out
  have hrb := HRB.out
  clear hf b1 b2 hbw
  by_cases hx : x2 = 0
  · subst hx
    have HOK := Lib.hid (show (checkP fs).2.2 = 0 by rw [← HCHE.out])
    obtain ⟨h16, hfew⟩ := check_few HOK.out
    have HFEW := Lib.hid hfew
    have hn16 : n ≤ 16 := by rw [HN.out]; exact h16
    clear h16 hfew hm
    go_enter Tryd.func8, Tryd.ntmps8
    go_upto_region 1 with (fail)
    rw [← hw, ← hrb, ← hpb]
    clear hw hpb hrb
    go_upto_region 4 with (go_at_call 10; refine HCH.out.mono ?_; rintro e W1 ⟨rfl, hb1⟩; have HB1 := Lib.hid hb1; have p1 : W1.cell? ⟨pb, 0, none⟩ = some (.slice A n c) := ((HP.out.below hb1 HP.out.lt).cell 0).trans rfl; clear hb1)
    clear p0
    go_upto_region 7 with (fail)
    generalize hW2 : W1.alloc _ = W2
    have hB2 : Below W1.heap.size W1 W2 := by rw [← hW2]; exact (Below.refl _ _).alloc (Nat.le_refl _) _
    have hO2 : Blk W2 W1.heap.size 24 #[.slice none 0 0] := by rw [← hW2]; exact Blk.new W1 _ _
    obtain ⟨ob, HOB⟩ : ∃ q, Hid (q = W1.heap.size) := ⟨_, Lib.hid rfl⟩
    rw [← HOB.out] at hO2
    rw [← HOB.out]
    have HB12 := Lib.hid (HB1.out.trans (hB2.mono HB1.out.size))
    have HPI := Lib.hid (show PI w W2 rb ob W2.heap.size 0 0 none [] (markP mx (fs.take 0)) from ⟨hO2, Own.nil _ _ _ _, FnsAt.nil _ _, HB.out.trans (HB12.out.mono HB.out.size), rfl, hO2.lt, by rw [HOB.out]; exact Nat.le_trans HB.out.size HB1.out.size, Nat.le_refl _, by rw [HRB.out]; omega, (HR.out.below HB12.out HR.out.lt).lt⟩)
    have HWW := Lib.hid (show W.heap.size ≤ ob by rw [HOB.out]; exact HB1.out.size)
    have HRB2 := Lib.hid (HR.out.below HB12.out HR.out.lt)
    have HPB2 := Lib.hid (HP.out.below HB12.out HP.out.lt)
    obtain ⟨base, HBASE⟩ : ∃ q, Hid (q = W2.heap.size) := ⟨_, Lib.hid rfl⟩
    rw [← HBASE.out] at HPI
    have HLOW := Lib.hid (show pb < W.heap.size ∧ rb < W.heap.size from ⟨HP.out.lt, HR.out.lt⟩)
    clear hW2 hB2 hO2 p1
    go_loopw [11, 12] (fun v5 vi wr => ∃ (k cG : Nat) (G : Option Addr) (al : List FnA), k ≤ n ∧ vi = .int .i64 k ∧ v5 = .int .i64 (allK mx fs k) ∧ Hid (PI w wr rb ob base k cG G al (markP mx (fs.take k))) ∧ Hid (Blk wr pb 24 #[.slice A n c]) ∧ Hid (Blk wr rb 24 #[.slice none 0 0])) (fun _ vi _ => n - (intOf vi).toNat)
    case atStart => exact ⟨0, 0, none, [], by omega, rfl, rfl, HPI, HPB2, HRB2⟩
    case round =>
      obtain ⟨k, cG, G, al, hk, rfl, rfl, K1, K2, K3⟩ := hrel
      obtain ⟨q, HQ⟩ : ∃ x, Hid (x = allK mx fs k) := ⟨_, Lib.hid rfl⟩
      rw [← HQ.out]
      have hq := allK_few mx fs (fun i hi => (HFEW.out i hi).1) k (by rw [← HN.out]; exact hk)
      rw [← HQ.out] at hq
      have p0 : wr.cell? ⟨pb, 0, none⟩ = some (.slice A n c) := (K2.out.cell 0).trans rfl
      by_cases hlt : k < n
      · have hkf : k < fs.length := by rw [← HN.out]; exact hlt
        obtain ⟨b, off, a, eA, hbb, c0, c1, hfn⟩ := (HF0.out.below K1.out.low).at_ k hkf
        subst eA
        obtain ⟨C, fn, fc, S, sm, sd⟩ := a
        simp only at c0 c1
        have HMS := Lib.hid (markP_snoc mx fs k hkf)
        have HAS := Lib.hid (allK_succ mx fs k hkf)
        have hmo := more_nat mx fs[k]
        have hf64 := HFEW.out k hkf
        obtain ⟨f, HFE⟩ : ∃ f, Hid (f = fs[k]) := ⟨_, Lib.hid rfl⟩
        rw [← HFE.out] at hfn HMS HAS hmo hf64
        have HFN := Lib.hid hfn
        have h1 : fn ≤ 64 := by have := HFN.out.1; simp only at this; omega
        have h2 : sm ≤ 64 := by have := HFN.out.2.1; simp only at this; omega
        obtain ⟨mo, HMO⟩ : ∃ x, Hid (x = moreF mx f) := ⟨_, Lib.hid rfl⟩
        rw [← HQ.out, ← HMO.out] at HAS
        rw [← HMO.out] at hmo
        have hmo2 : mo ≤ 64 := by omega
        have HFU := Lib.hid (rfunc_any most (HFN.out.more K1.out.low.size) h1 h2)
        rw [← HMX.out] at HFU
        rw [← HMO.out] at HFU
        clear hfn hbb hf64
        go_upto_region 10 with (go_at_call 14; refine HFU.out.mono ?_; rintro e V1 ⟨gS, rfl, hg, hfs, hb⟩; have HFS := Lib.hid hfs; have HGS := Lib.hid hg; have HB1V := Lib.hid hb; clear hg hfs hb)
        have HPV1 := Lib.hid (K1.out.call HB1V.out)
        have HK2 := Lib.hid (K2.out.below HB1V.out K2.out.lt)
        have HK3 := Lib.hid (K3.out.below HB1V.out K3.out.lt)
        obtain ⟨a', HA'⟩ : ∃ a' : FnA, Hid (a' = ⟨C, fn, fc, some ⟨gS, 0, none⟩, fn, fn⟩) := ⟨_, Lib.hid rfl⟩
        have HFS1 := Lib.hid (show FnS V1 (OffR V1 ob rb G) a' (markF mx f) by
          rw [HA'.out]
          have hbel : Below w.heap.size wr V1 := HB1V.out.mono K1.out.low.size
          have hrow : Row V1 w.heap.size C (f.code.flatMap insVals) := HFN.out.2.2.1.below hbel
          refine ⟨HFN.out.1, by rw [mark_len]; exact HFN.out.1, hrow.rowS.mono fun b hb => ⟨?_, ?_, fun e => ?_⟩, (Blk.rowS HFS.out).mono fun b hb => ?_, HFN.out.2.2.2.2.1, HFN.out.2.2.2.2.1, HFN.out.2.2.2.2.2.2⟩
          · have := HPV1.out.low.size; omega
          · have h1 := HPV1.out.hrb; have h2 := HPV1.out.hx.1; exact ⟨by omega, by omega⟩
          · have h1 := (HPV1.out.own.lt b e).1
            have h2 := HPV1.out.hb
            have h3 := HPV1.out.hrb
            omega
          · subst hb
            exact ⟨HFS.out.lt, ⟨by have := K1.out.box.lt; have := HGS.out; omega, by have := K3.out.lt; have := HGS.out; omega⟩, fun e => by have := (K1.out.own.lt _ e).2; have := HGS.out; omega⟩)
        have e1 : C = a'.C := by rw [HA'.out]
        have e2 : fn = a'.n := by rw [HA'.out]
        have e3 : fc = a'.c := by rw [HA'.out]
        have e4 : (some ⟨gS, 0, none⟩ : Option Addr) = a'.S := by rw [HA'.out]
        have e5 : fn = a'.m := by rw [HA'.out]
        have e6 : fn = a'.d := by rw [HA'.out]
        obtain ⟨X, HX⟩ : ∃ V, Hid (V = V1.alloc (.cells #[.slice a'.C a'.n a'.c, .slice a'.S a'.m a'.d] 39)) := ⟨_, Lib.hid rfl⟩
        rw [e4]
        generalize hX : V1.alloc _ = X2
        obtain rfl : X = X2 := by rw [← hX, HX.out, HA'.out]
        clear hX e1 e2 e3 e4 e5 e6
        have HBXV := Lib.hid (show Below V1.heap.size V1 X by rw [HX.out]; exact (Below.refl _ _).alloc (Nat.le_refl _) _)
        have HPX := Lib.hid (HPV1.out.call HBXV.out)
        have HFX := Lib.hid (show FnS X (OffR X ob rb G) a' (markF mx f) from (HFS1.out.keep fun b hS => HBXV.out.block b hS.1).mono fun b hS => ⟨Nat.lt_of_lt_of_le hS.1 HBXV.out.size, hS.2⟩)
        have HNB := Lib.hid (show Blk X V1.heap.size 39 #[.slice a'.C a'.n a'.c, .slice a'.S a'.m a'.d] by rw [HX.out]; exact Blk.new V1 _ _)
        have r0 : X.cell? ⟨ob, 0, none⟩ = some (.slice G k cG) := (HPX.out.box.cell 0).trans rfl
        have r1 : X.cell? ⟨V1.heap.size, 0, none⟩ = some (.slice a'.C a'.n a'.c) := (HNB.out.cell 0).trans rfl
        have r2 : X.cell? ⟨V1.heap.size, 1, none⟩ = some (.slice a'.S a'.m a'.d) := (HNB.out.cell 1).trans rfl
        obtain ⟨hq0, hq1⟩ := hq
        obtain ⟨hm0, hm1⟩ := hmo
        go_wp2_with (at_builtin; go_must (refine wpList_append_1 _ rfl _ _ 22 rfl base 39 i0 _ 2 48 Tryd.underlying22 HI0.out HZ0.out HZ1.out HZ2.out rfl (by decide) _ _ _ _ rfl (HPX.out.own.alloc _) ⟨X.heap.size, 0, none⟩ 1 (fnaVals a') rfl rfl (cells2' (by simp [go_sem]) (by simp [go_sem])) (by simp [fnaVals, Value.oneCell']) (by unfold maxLen; omega) (by omega) (by rw [World.size_alloc]; have h := HPX.out.hbs; omega) ?_); intro A' c2 w5 hown1 hgrow1 hat1; have HOW := Lib.hid hown1; have HGR := Lib.hid hgrow1; have HAT := Lib.hid hat1; have hbx5 := (after_append HPX.out.box hgrow1 HPX.out.own HPX.out.hb).1; have s0 : w5.cell? ⟨ob, 0, none⟩ = some (.slice G k cG) := (hbx5.cell 0).trans rfl; have s1 : w5.frozen? ⟨ob, 0, none⟩ = false := hbx5.frozen 0; clear hown1 hgrow1 hat1 hbx5)
        exact ⟨⟨k + 1, c2, A', al ++ [a'], by omega, by go_num, by rw [HAS.out], Lib.hid (by rw [HMS.out]; exact HPX.out.push HFX.out HOW.out HGR.out HAT.out), Lib.hid (((((HK2.out.below HBXV.out HK2.out.lt).alloc _).grown HGR.out (fun e => by have h1 := (HPX.out.own.lt _ e.symm).1; have h2 := HPX.out.hb; have h3 := HLOW.out.1; have h4 := HWW.out; omega)).far (p := ⟨ob, 0, none⟩) (by have h3 := HLOW.out.1; have h4 := HWW.out; show _ ≠ ob; omega) _)), Lib.hid (((((HK3.out.below HBXV.out HK3.out.lt).alloc _).grown HGR.out (fun e => by have h1 := (HPX.out.own.lt _ e.symm).1; have h2 := HPX.out.hb; have h3 := HLOW.out.2; have h4 := HWW.out; omega)).far (p := ⟨ob, 0, none⟩) (by have h3 := HLOW.out.2; have h4 := HWW.out; show _ ≠ ob; omega) _))⟩, by simp [intOf]; omega⟩
      · obtain rfl : k = n := by omega
        have HALL := Lib.hid (show allM mx fs = q by rw [HQ.out]; unfold allK; rw [List.take_of_length_le (by rw [← HN.out]; exact Nat.le_refl _)])
        have HTK := Lib.hid (show fs.take k = fs from List.take_of_length_le (by rw [← HN.out]; exact Nat.le_refl _))
        rw [HTK.out] at K1
        have r0 : wr.cell? ⟨ob, 0, none⟩ = some (.slice G k cG) := (K1.out.box.cell 0).trans rfl
        have r1 : wr.frozen? ⟨ob, 0, none⟩ = false := K1.out.box.frozen 0
        have r2 : wr.cell? ⟨rb, 0, none⟩ = some (.slice none 0 0) := (K3.out.cell 0).trans rfl
        have r3 : wr.frozen? ⟨rb, 0, none⟩ = false := K3.out.frozen 0
        have r4 : (wr.setCell ⟨rb, 0, none⟩ (.slice G k cG)).cell? ⟨rb, 0, none⟩ = some (.slice G k cG) := ((K3.out.set_ 0 (.slice G k cG)).cell 0).trans rfl
        have HPUT := Lib.hid (K1.out.putx (.slice G k cG))
        go_wp2_with fail
        refine bodyPost_ret (v := .tuple #[.agg #[.slice G k cG], .int .i64 q, .int .i64 0]) (by simp [results, Tryd.results8, go_sem, r4]) rfl ?_
        exact ⟨HPUT.out.2, .inr ⟨HOK.out, G, cG, by rw [HALL.out, HN.out], HPUT.out.1⟩⟩
  · have hx' : (x2 != 0) = true := by simpa using hx
    have HBAD := Lib.hid (show (checkP fs).2.2 ≠ 0 by rw [← HCHE.out]; exact hx)
    clear hx hm
    go_enter Tryd.func8, Tryd.ntmps8
    go_upto_region 1 with (fail)
    rw [← hw, ← hrb, ← hpb]
    clear hw hpb hrb
    go_wp2_with (go_at_call 10; refine HCH.out.mono ?_; rintro e W1 ⟨rfl, hb1⟩; have HB1 := Lib.hid hb1; have HR1 := Lib.hid (HR.out.below hb1 HR.out.lt); have r0 : W1.cell? ⟨rb, 0, none⟩ = some (.slice none 0 0) := (HR1.out.cell 0).trans rfl; have r1 : W1.frozen? ⟨rb, 0, none⟩ = false := HR1.out.frozen 0; clear hb1)
    have r2 : (W1.setCell ⟨rb, 0, none⟩ (.slice none 0 0)).cell? ⟨rb, 0, none⟩ = some (.slice none 0 0) := ((HR1.out.set_ 0 (.slice none 0 0)).cell 0).trans rfl
    refine bodyPost_ret (v := .tuple #[.agg #[.slice none 0 0], .int .i64 0, .int .i64 1]) (by simp [results, Tryd.results8, go_sem, r2]) rfl ?_
    exact ⟨(HB.out.trans (HB1.out.mono HB.out.size)).setCell (by show _ ≤ rb; rw [HRB.out]; omega) _, .inl ⟨HBAD.out, rfl⟩⟩
end Go.Proofs.YtfgaonkoaolffaaDoor

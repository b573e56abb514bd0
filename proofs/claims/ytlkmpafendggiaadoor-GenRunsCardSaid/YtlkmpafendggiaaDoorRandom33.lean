/-
  Chapter 33: contract of gen.Random: the program that it hands back is mended out of functions whose instructions are right. Condition: the table is laid.
-/
import Derived.Test.YtlkmpafendggiaaDoorRand33
namespace Go.Proofs.YtlkmpafendggiaaDoor
open Go.RowKit
/-- Two cells, and what they hold. -/
def Cells2 (p0 p1 : Addr) (v0 v1 : Value) (w : World) : Prop := w.cell? p0 = some v0 ∧ w.cell? p1 = some v1
def Cells3 (p0 p1 p2 : Addr) (v0 v1 v2 : Value) (w : World) : Prop := w.cell? p0 = some v0 ∧ w.cell? p1 = some v1 ∧ w.cell? p2 = some v2
theorem boolcell' (w : World) (x : Bool) (t : TypeId) : ∀ j u, [Value.bool x][j]? = some u → (w.alloc (.cells #[.bool x] t)).cell? ((⟨w.heap.size, 0, none⟩ : Addr).add j) = some u := by
  intro j u hu
  match j, hu with
  | 0, hu => simp at hu; rw [← hu]; simp [go_sem]
theorem Own.frozen_ {w : World} {base : Nat} {e : TypeId} {size n c g : Nat} {xs : List Value} (h : Own w base e size (some ⟨g, 0, none⟩) n c xs) (i : Nat) : w.frozen? ⟨g, i, none⟩ = false := by
  rcases h.2 with ⟨hn, _⟩ | ⟨g', cap, cur, hv, hg, hh, _⟩
  · cases hn
  · injection hv with hv
    injection hv with hv
    injection hv with hv
    subst hv
    exact Blk.frozen (t := e) hh i
theorem Own.last_cells {w : World} {base : Nat} {e : TypeId} {n c g : Nat} {pre : List Ins} {l : Ins} (h : Own w base e 5 (some ⟨g, 0, none⟩) n c ((pre ++ [l]).flatMap insVals)) : ∀ i, i < 5 → ∃ v, w.cell? ⟨g, pre.length * 5 + i, none⟩ = some v := by
  intro i hi
  have hlen : ((pre ++ [l]).flatMap insVals).length = (pre.length + 1) * 5 := by rw [flat_length insVals_len]; simp
  obtain ⟨b, off, e1, _, hc⟩ := h.rowN.at_ (k := pre.length * 5 + i) (by omega)
  injection e1 with e1
  injection e1 with e1 e2
  subst e1 e2
  have hlt : pre.length * 5 + i < ((pre ++ [l]).flatMap insVals).length := by omega
  have := hc (pre.length * 5 + i) _ (List.getElem?_eq_getElem hlt)
  rw [Nat.zero_add] at this
  exact ⟨_, this⟩
/-- A function that was thrown. -/
def GoodFn (f : Fn) (size funcs : Nat) : Prop := f.code.length = size ∧ ∃ pre, f.code = pre ++ [ins1 9 0] ∧ ∀ i ∈ pre, GoodIns i size funcs
def randB (funcs size : Int) : Bool := decide (1 ≤ funcs ∧ funcs ≤ 16 ∧ 1 ≤ size ∧ size ≤ 64)
set_option maxHeartbeats 2000000 in
set_option maxRecDepth 100000 in
theorem random_bad (x funcs size : Int) (h : randB funcs size = false) (w : World) : Calls Tryd.prog 39 #[.int .u64 x, .int .i64 funcs, .int .i64 size] w fun e w' => NoneMade w w' e := by
  have hc : funcs < 1 ∨ (1 ≤ funcs ∧ 16 < funcs) ∨ (1 ≤ funcs ∧ funcs ≤ 16 ∧ size < 1) ∨ (1 ≤ funcs ∧ funcs ≤ 16 ∧ 1 ≤ size ∧ 64 < size) := by
    unfold randB at h
    rw [decide_eq_false_iff_not] at h
    omega
  clear h
  rcases hc with h1 | ⟨h1, h2⟩ | ⟨h1, h2, h3⟩ | ⟨h1, h2, h3, h4⟩
  · go_enter Tryd.func39, Tryd.ntmps39
    go_wp2_with fail
    exact bodyPost_ret (v := .tuple #[.agg #[.slice none 0 0], .int .i64 1]) (by simp [results, Tryd.results39, go_sem]) rfl ⟨rfl, ((Below.refl _ _).alloc (Nat.le_refl _) _)⟩
  · have d1 : decide (funcs < 1) = false := by simp; omega
    go_enter Tryd.func39, Tryd.ntmps39
    go_wp2_with fail
    exact bodyPost_ret (v := .tuple #[.agg #[.slice none 0 0], .int .i64 1]) (by simp [results, Tryd.results39, go_sem]) rfl ⟨rfl, ((Below.refl _ _).alloc (Nat.le_refl _) _)⟩
  · have d1 : decide (funcs < 1) = false := by simp; omega
    have d2 : decide (16 < funcs) = false := by simp; omega
    go_enter Tryd.func39, Tryd.ntmps39
    go_wp2_with fail
    exact bodyPost_ret (v := .tuple #[.agg #[.slice none 0 0], .int .i64 1]) (by simp [results, Tryd.results39, go_sem]) rfl ⟨rfl, ((Below.refl _ _).alloc (Nat.le_refl _) _)⟩
  · have d1 : decide (funcs < 1) = false := by simp; omega
    have d2 : decide (16 < funcs) = false := by simp; omega
    have d3 : decide (size < 1) = false := by simp; omega
    go_enter Tryd.func39, Tryd.ntmps39
    go_wp2_with fail
    exact bodyPost_ret (v := .tuple #[.agg #[.slice none 0 0], .int .i64 1]) (by simp [results, Tryd.results39, go_sem]) rfl ⟨rfl, ((Below.refl _ _).alloc (Nat.le_refl _) _)⟩
set_option maxHeartbeats 4000000 in
set_option maxRecDepth 100000 in
theorem random_any (x : Int) (F Z : Nat) (hF1 : 1 ≤ F) (hF2 : F ≤ 16) (hZ1 : 1 ≤ Z) (hZ2 : Z ≤ 64) (w : World) (hT : Tab w) :
    Calls Tryd.prog 39 #[.int .u64 x, .int .i64 F, .int .i64 Z] w fun e w' => ∃ gs, gs.length = F ∧ (∀ f ∈ gs, GoodFn f Z F) ∧ Made w w' e gs := by
  obtain ⟨i0, hi, hz0, hz1, hz2⟩ := info_parts Tryd.infoFn
  have HI := Lib.hid hi
  have HZ0 := Lib.hid hz0
  have HZ1 := Lib.hid hz1
  have HZ2 := Lib.hid hz2
  clear hi hz0 hz1 hz2
  obtain ⟨i1, hi, hz0, hz1, hz2⟩ := info_parts Tryd.infoIns
  have II := Lib.hid hi
  have IZ0 := Lib.hid hz0
  have IZ1 := Lib.hid hz1
  have IZ2 := Lib.hid hz2
  clear hi hz0 hz1 hz2
  obtain ⟨i2, hi, hz0, hz1, hz2⟩ := info_parts Tryd.infoBool
  have BI := Lib.hid hi
  have BZ0 := Lib.hid hz0
  have BZ1 := Lib.hid hz1
  have BZ2 := Lib.hid hz2
  clear hi hz0 hz1 hz2
  have HT := Lib.hid hT
  clear hT
  go_enter Tryd.func39, Tryd.ntmps39
  go_wp2_with fail
  refine (dnew_any _ _).mono ?_
  rintro e w2 ⟨rfl, rfl⟩
  go_wp2_with fail
  have hS0 : St w (((w.alloc (.cells #[.slice none 0 0] 32)).alloc (.cells #[.int .u64 x] 73)).alloc (.cells #[.pointer (some ⟨w.heap.size + 1, 0, none⟩), .slice none 0 0] 77)) (w.heap.size + 1) (w.heap.size + 1 + 1) (w.heap.size + 1 + 1 + 1) none 0 [] [] := by
    have hb := Blk.new ((w.alloc (.cells #[.slice none 0 0] 32)).alloc (.cells #[.int .u64 x] 73)) 77 #[.pointer (some ⟨w.heap.size + 1, 0, none⟩), .slice none 0 0]
    rw [World.size_alloc, World.size_alloc] at hb
    exact ⟨hb, Own.nil _ _ _ _, (fun k hk => by cases hk), FnsAt.nil _ _, ((Blk.new _ _ _).alloc _).alloc _, (((Below.refl _ _).alloc (Nat.le_refl _) _).alloc (by simp) _).alloc (by simp; omega) _, by omega, by omega, by omega, by simp⟩
  have hD0 : Blk (((w.alloc (.cells #[.slice none 0 0] 32)).alloc (.cells #[.int .u64 x] 73)).alloc (.cells #[.pointer (some ⟨w.heap.size + 1, 0, none⟩), .slice none 0 0] 77)) (w.heap.size + 1) 73 #[.int .u64 x] := by
    have hb := Blk.new (w.alloc (.cells #[.slice none 0 0] 32)) 73 #[.int .u64 x]
    rw [World.size_alloc] at hb
    exact hb.alloc _
  have hsz : (((w.alloc (.cells #[.slice none 0 0] 32)).alloc (.cells #[.int .u64 x] 73)).alloc (.cells #[.pointer (some ⟨w.heap.size + 1, 0, none⟩), .slice none 0 0] 77)).heap.size = w.heap.size + 1 + 1 + 1 := by simp
  rw [← hsz] at hS0
  have HS0 := Lib.hid hS0
  have HD0 := Lib.hid hD0
  clear hS0 hD0 hsz
  generalize (((w.alloc (.cells #[.slice none 0 0] 32)).alloc (.cells #[.int .u64 x] 73)).alloc (.cells #[.pointer (some ⟨w.heap.size + 1, 0, none⟩), .slice none 0 0] 77)) = W0 at *
  generalize hgd : w.heap.size + 1 = gd at *
  generalize hgm : gd + 1 = gm at *
  have HGD := Lib.hid hgd
  have HGM := Lib.hid hgm
  clear hgd hgm
  go_loopw [30] (fun vi wr => ∃ (k : Nat) (G : Option Addr) (cG : Nat) (al : List FnA) (gs : List Fn) (y : Int), k ≤ F ∧ vi = .int .i64 k ∧ gs.length = k ∧ (∀ f ∈ gs, GoodFn f Z F) ∧ St w wr gd gm wr.heap.size G cG al gs ∧ Blk wr gd 73 #[.int .u64 y]) (fun vi _ => F - (intOf vi).toNat)
  case atStart => exact ⟨0, none, 0, [], [], x, by omega, rfl, rfl, (fun f hf => by cases hf), HS0.out, HD0.out⟩
  case round =>
    obtain ⟨k, G, cG, al, gs, y, hk, rfl, hlen, hgood, hS, hD⟩ := hrel
    have HLEN := Lib.hid hlen
    have HGOOD := Lib.hid hgood
    have HS := Lib.hid hS
    have HD := Lib.hid hD
    clear hlen hgood hS hD HS0 HD0
    by_cases hlt : k < F
    · go_wp2_with fail
      have HS1 := Lib.hid (HS.out.below ((Below.refl _ _).alloc (Nat.le_refl _) (.cells #[.slice none 0 0, .slice none 0 0] 41)))
      have HT1 := Lib.hid (Thr.start HD.out)
      generalize (wr.alloc (.cells #[.slice none 0 0, .slice none 0 0] 41)) = W1 at *
      generalize wr.heap.size = fb at *
      go_loopw [33] (fun vi wq => ∃ (j : Nat) (C : Option Addr) (c : Nat) (S : Option Addr) (sc : Nat) (codes : List Ins) (bs : List Bool) (y : Int), j ≤ Z ∧ vi = .int .i64 j ∧ St w wq gd gm fb G cG al gs ∧ Thr wq gd fb C c S sc j j codes bs y ∧ ∀ i ∈ codes, GoodIns i Z F) (fun vi _ => Z - (intOf vi).toNat)
      case atStart => exact ⟨0, none, 0, none, 0, [], [], y, by omega, rfl, HS1.out, HT1.out, fun i hi => by cases hi⟩
      case round =>
        obtain ⟨j, C, c, S, sc, codes, bs, y, hj, rfl, hS, hT, hgi⟩ := hrel
        clear HS HD HS1 HT1
        have HS := Lib.hid hS
        have HTH := Lib.hid hT
        have HGI := Lib.hid hgi
        clear hS hT hgi
        by_cases hjz : j < Z
        · go_wp2_with fail
          have F0 : ∀ w' : World, (w'.cell? ⟨fb, 0, none⟩ = some (.slice C j c)) → w'.cell? ⟨fb, 0, none⟩ = some (.slice C j c) := fun _ h => h
          refine region_mixE (fun w' => w'.cell? ⟨fb, 0, none⟩ = some (.slice C j c)) 1 [5, 0, 0] (by kernel_rfl) (by kernel_rfl) (by kernel_rfl) (fun _ _ d _ _ h => by cases d <;> exact h) (HTH.out.fblk.cell 0) ?_
          (try simp only [Act.put, List.setIfInBounds_toArray, List.set_cons_zero, List.set_cons_succ]); refine mixE_seg ?_; simp only [List.take_succ_cons, List.take_zero, List.drop_succ_cons, List.drop_zero]; (repeat (first | go_big_quiet_skip | (go_big_quiet_want; first | (go_big_quiet_op; first | go_big_quiet_on | ((first | with_reducible refine ⟨_, fun _ _ => rfl, ?_⟩); go_big_quiet_on)) | (simp (contextual := true) [go_sem, F0]; with_reducible refine ⟨_, fun _ _ => rfl, ?_⟩; go_big_quiet_on)))); refine wpQuiet_nil ?_
          go_wp2_with fail
          refine (instr_any gm gd _ y F Z (by omega) (by omega) _ ((HS.out.tab HT.out).step (Below.refl _ _).drew) HS.out.blk HTH.out.dice (Nat.lt_of_le_of_lt (Nat.zero_le _) HS.out.o1)).mono ?_
          rintro e w3 ⟨x3, y3, rfl, hg3, hd3, hgr3⟩
          have hgr3' : wr.grownBy w3 (some gd) := ⟨hgr3.os, hgr3.tape, hgr3.output, hgr3.size, hgr3.block⟩
          have HT3 := Lib.hid (HTH.out.dice_ hgr3' hd3)
          have HS3 := Lib.hid (HS.out.grown hgr3' (fun k hk => by injection hk with hk; left; exact hk.symm))
          have HG3 := Lib.hid hg3
          clear hg3 hd3 hgr3 hgr3'
          go_wp2_with fail
          refine ⟨HT3.out.fblk.cell 0, ?_⟩
          (try simp only [Act.put, List.setIfInBounds_toArray, List.set_cons_zero, List.set_cons_succ]); refine mixE_seg ?_; simp only [List.take_succ_cons, List.take_zero, List.drop_succ_cons, List.drop_zero]; (repeat (first | go_big_quiet_skip | (go_big_quiet_want; first | (go_big_quiet_op; first | go_big_quiet_on | ((first | with_reducible refine ⟨_, fun _ _ => rfl, ?_⟩); go_big_quiet_on)) | (simp (contextual := true) [go_sem, F0]; with_reducible refine ⟨_, fun _ _ => rfl, ?_⟩; go_big_quiet_on)))); refine wpQuiet_nil ?_
          go_wp2_with fail
          refine ⟨(HT3.out.fblk.alloc _).cell 0, ?_⟩
          (try simp only [Act.put, List.setIfInBounds_toArray, List.set_cons_zero, List.set_cons_succ]); refine mixE_seg ?_; simp only [List.take_succ_cons, List.take_zero, List.drop_succ_cons, List.drop_zero]; (repeat (first | go_big_quiet_skip | (go_big_quiet_want; first | (go_big_quiet_op; first | go_big_quiet_on | ((first | with_reducible refine ⟨_, fun _ _ => rfl, ?_⟩); go_big_quiet_on)) | (simp (contextual := true) [go_sem, F0]; with_reducible refine ⟨_, fun _ _ => rfl, ?_⟩; go_big_quiet_on)))); refine wpQuiet_nil ?_
          have c1 : Hid (j + 1 ≤ maxLen) := by unfold maxLen; show _ ≤ _; omega
          have hl3 := HT3.out.fblk.lt
          go_wp2_with (at_builtin; go_must (refine wpList_append_1 _ rfl (.tmp 36) (.tmp 41) 38 rfl (fb + 1) 26 i1 _ 5 40 Tryd.underlying38 II.out IZ0.out IZ1.out IZ2.out rfl (by decide) _ _ _ _ rfl (HT3.out.ownC.alloc _) ⟨w3.heap.size, 0, none⟩ 1 (insVals x3) rfl rfl (insCells w3 x3 _) (by simp [insVals, Value.oneCell']) c1.out (by omega) (by rw [World.size_alloc]; omega) ?_); intro C' c' w5 hown1 hgrow1 hat1)
          refine ⟨(HT3.out.fcell hgrow1 (fun k hk => (HT3.out.ownC.lt k hk).1) 0).trans (HT3.out.fblk.cell 0), ?_⟩
          (try simp only [Act.put, List.setIfInBounds_toArray, List.set_cons_zero, List.set_cons_succ]); refine mixE_end ?_; simp only [List.take_succ_cons, List.take_zero, List.drop_succ_cons, List.drop_zero]; (repeat (first | go_big_quiet_skip | (go_big_quiet_want; first | (go_big_quiet_op; first | go_big_quiet_on | ((first | with_reducible refine ⟨_, fun _ _ => rfl, ?_⟩); go_big_quiet_on)) | (simp (contextual := true) [go_sem, F0]; with_reducible refine ⟨_, fun _ _ => rfl, ?_⟩; go_big_quiet_on)))); refine wpQuiet_nil ?_
          have HT5 := Lib.hid (HT3.out.pushC x3 hgrow1 hown1 hat1)
          have HS5 := Lib.hid (((HS3.out.below ((Below.refl _ _).alloc (Nat.le_refl _) _)).grown hgrow1 (fun k hk => .inr (Nat.le_of_succ_le (HT3.out.ownC.lt k hk).1))).setCell (p := ⟨fb, 0, none⟩) (Nat.le_refl _) (.slice C' (j + 1) c'))
          have s1 := HT3.out.fcell hgrow1 (fun k hk => (HT3.out.ownC.lt k hk).1) 0
          rw [HT3.out.fblk.cell 0] at s1
          have s2 := (after_append HT3.out.fblk hgrow1 HT3.out.ownC (Nat.lt_succ_self _)).2.2.1 0
          simp at s1
          clear F0 hgrow1 hown1 hat1 c1 hl3
          go_wp2_with fail
          generalize (w5.setCell ⟨fb, 0, none⟩ (.slice C' (j + 1) c')) = W5 at *
          have F0 : ∀ w' : World, Cells2 ⟨fb, 1, none⟩ ⟨gm, 0, none⟩ (.slice S j sc) (.pointer (some ⟨gd, 0, none⟩)) w' → w'.cell? ⟨fb, 1, none⟩ = some (.slice S j sc) := fun _ h => h.1
          have F1 : ∀ w' : World, Cells2 ⟨fb, 1, none⟩ ⟨gm, 0, none⟩ (.slice S j sc) (.pointer (some ⟨gd, 0, none⟩)) w' → w'.cell? ⟨gm, 0, none⟩ = some (.pointer (some ⟨gd, 0, none⟩)) := fun _ h => h.2
          refine region_mixE (Cells2 ⟨fb, 1, none⟩ ⟨gm, 0, none⟩ (.slice S j sc) (.pointer (some ⟨gd, 0, none⟩))) 1 [6, 1, 0] (by kernel_rfl) (by kernel_rfl) (by kernel_rfl) (fun _ _ d _ _ h => by cases d <;> exact h) ⟨HT5.out.fblk.cell 1, HS5.out.blk.cell 0⟩ ?_
          (try simp only [Act.put, List.setIfInBounds_toArray, List.set_cons_zero, List.set_cons_succ]); refine mixE_seg ?_; simp only [List.take_succ_cons, List.take_zero, List.drop_succ_cons, List.drop_zero]; (repeat (first | go_big_quiet_skip | (go_big_quiet_want; first | (go_big_quiet_op; first | go_big_quiet_on | ((first | with_reducible refine ⟨_, fun _ _ => rfl, ?_⟩); go_big_quiet_on)) | (simp (contextual := true) [go_sem, F0, F1]; with_reducible refine ⟨_, fun _ _ => rfl, ?_⟩; go_big_quiet_on)))); refine wpQuiet_nil ?_
          go_wp2_with fail
          refine (dbelow_any gd y3 2 W5.drew (i64_small _ (by omega) (by omega)) HT5.out.dice).mono ?_
          rintro e w6 ⟨rfl, ht6⟩
          have hgr6 : W5.grownBy w6 (some gd) := ⟨ht6.1.os, ht6.1.tape, ht6.1.output, ht6.1.size, ht6.1.block⟩
          have HT6 := Lib.hid (HT5.out.dice_ hgr6 ht6.2.1)
          have HS6 := Lib.hid (HS5.out.grown hgr6 (fun k hk => by injection hk with hk; left; exact hk.symm))
          clear ht6 hgr6
          go_wp2_with fail
          refine ⟨⟨HT6.out.fblk.cell 1, HS6.out.blk.cell 0⟩, ?_⟩
          (try simp only [Act.put, List.setIfInBounds_toArray, List.set_cons_zero, List.set_cons_succ]); refine mixE_seg ?_; simp only [List.take_succ_cons, List.take_zero, List.drop_succ_cons, List.drop_zero]; (repeat (first | go_big_quiet_skip | (go_big_quiet_want; first | (go_big_quiet_op; first | go_big_quiet_on | ((first | with_reducible refine ⟨_, fun _ _ => rfl, ?_⟩); go_big_quiet_on)) | (simp (contextual := true) [go_sem, F0, F1]; with_reducible refine ⟨_, fun _ _ => rfl, ?_⟩; go_big_quiet_on)))); refine wpQuiet_nil ?_
          go_wp2_with fail
          refine ⟨⟨(HT6.out.fblk.alloc _).cell 1, (HS6.out.blk.alloc _).cell 0⟩, ?_⟩
          (try simp only [Act.put, List.setIfInBounds_toArray, List.set_cons_zero, List.set_cons_succ]); refine mixE_seg ?_; simp only [List.take_succ_cons, List.take_zero, List.drop_succ_cons, List.drop_zero]; (repeat (first | go_big_quiet_skip | (go_big_quiet_want; first | (go_big_quiet_op; first | go_big_quiet_on | ((first | with_reducible refine ⟨_, fun _ _ => rfl, ?_⟩); go_big_quiet_on)) | (simp (contextual := true) [go_sem, F0, F1]; with_reducible refine ⟨_, fun _ _ => rfl, ?_⟩; go_big_quiet_on)))); refine wpQuiet_nil ?_
          have c1 : Hid (j + 1 ≤ maxLen) := by unfold maxLen; show _ ≤ _; omega
          have hl6 := HT6.out.fblk.lt
          go_wp2_with (at_builtin; go_must (refine wpList_append_1 _ rfl (.tmp 45) (.tmp 52) 39 rfl (fb + 1) 4 i2 _ 1 1 Tryd.underlying39 BI.out BZ0.out BZ1.out BZ2.out rfl (by decide) _ _ _ _ rfl (HT6.out.ownS.alloc _) ⟨w6.heap.size, 0, none⟩ 1 [.bool _] rfl rfl (boolcell' _ _ _) (by simp [Value.oneCell']) c1.out (by omega) (by rw [World.size_alloc]; omega) ?_); intro S' s' w7 hown1 hgrow1 hat1)
          have s3 := HT6.out.fcell hgrow1 (fun k hk => (HT6.out.ownS.lt k hk).1) 1
          have s4 := ((HS6.out.below ((Below.refl _ _).alloc (Nat.le_refl _) _)).grown hgrow1 (fun k hk => .inr (Nat.le_of_succ_le (HT6.out.ownS.lt k hk).1))).blk.cell 0
          rw [HT6.out.fblk.cell 1] at s3
          refine ⟨⟨s3, s4⟩, ?_⟩
          (try simp only [Act.put, List.setIfInBounds_toArray, List.set_cons_zero, List.set_cons_succ]); refine mixE_end ?_; simp only [List.take_succ_cons, List.take_zero, List.drop_succ_cons, List.drop_zero]; (repeat (first | go_big_quiet_skip | (go_big_quiet_want; first | (go_big_quiet_op; first | go_big_quiet_on | ((first | with_reducible refine ⟨_, fun _ _ => rfl, ?_⟩); go_big_quiet_on)) | (simp (contextual := true) [go_sem, F0, F1]; with_reducible refine ⟨_, fun _ _ => rfl, ?_⟩; go_big_quiet_on)))); refine wpQuiet_nil ?_
          have HT7 := Lib.hid (HT6.out.pushS _ hgrow1 hown1 hat1)
          have HS7 := Lib.hid (((HS6.out.below ((Below.refl _ _).alloc (Nat.le_refl _) _)).grown hgrow1 (fun k hk => .inr (Nat.le_of_succ_le (HT6.out.ownS.lt k hk).1))).setCell (p := ⟨fb, 1, none⟩) (Nat.le_refl _) (.slice S' (j + 1) s'))
          have s2 := (after_append HT6.out.fblk hgrow1 HT6.out.ownS (Nat.lt_succ_self _)).2.2.1 1
          simp at s3
          clear F0 F1 hgrow1 hown1 hat1 c1 hl6 s4
          go_wp2_with fail
          go_roundw
          case rel => exact ⟨j + 1, C', c', S', s', codes ++ [x3], _, _, by omega, by go_num, HS7.out, HT7.out, fun i hi => by
            rw [List.mem_append] at hi
            rcases hi with hi | hi
            · exact HGI.out i hi
            · rw [List.mem_singleton] at hi; subst hi; exact HG3.out⟩
          case measure => simp [intOf]; omega
        · have hjz' : j = Z := by omega
          obtain ⟨pre, last, hpre⟩ : ∃ pre last, codes = pre ++ [last] := by
            rcases List.eq_nil_or_concat codes with h | ⟨p, l, h⟩
            · have := HTH.out.lc; rw [h] at this; simp at this; omega
            · exact ⟨p, l, by rw [h, List.concat_eq_append]⟩
          have hpl : pre.length + 1 = Z := by have := HTH.out.lc; rw [hpre] at this; simp at this; omega
          obtain ⟨gC, eC, hgC1, hgC2⟩ := HTH.out.ownC.some_ (by omega)
          subst eC hpre
          have q0 := HTH.out.fblk.cell 0
          simp at q0
          have hcel : ∀ i, i < 5 → ∃ v, wr.cell? ⟨gC, pre.length * 5 + i, none⟩ = some v := HTH.out.ownC.last_cells
          obtain ⟨v0, hv0⟩ := hcel 0 (by omega)
          obtain ⟨v1, hv1⟩ := hcel 1 (by omega)
          obtain ⟨v2, hv2⟩ := hcel 2 (by omega)
          obtain ⟨v3, hv3⟩ := hcel 3 (by omega)
          obtain ⟨v4, hv4⟩ := hcel 4 (by omega)
          have g0 := HTH.out.ownC.frozen_ (pre.length * 5)
          have g1 := HTH.out.ownC.frozen_ (pre.length * 5 + 1)
          have g2 := HTH.out.ownC.frozen_ (pre.length * 5 + 2)
          have g3 := HTH.out.ownC.frozen_ (pre.length * 5 + 3)
          have g4 := HTH.out.ownC.frozen_ (pre.length * 5 + 4)
          rw [Nat.add_zero] at hv0
          have HJZ := Lib.hid hjz'
          have hpl1 : pre.length < Z := by omega
          have hpl2 : Z ≤ pre.length + 1 := by omega
          have hzi : ((Z : Int) - 1) = (pre.length : Int) := by omega
          have HPL := Lib.hid hpl
          clear hcel hjz' hpl
          rw [HJZ.out] at q0
          go_wp2_with fail
          have HT8 := Lib.hid (HTH.out.last (ins1 9 0))
          have HS8 := Lib.hid (((((HS.out.setCell (p := ⟨gC, pre.length * 5, none⟩) (Nat.le_of_succ_le hgC1) (.int .i64 9)).setCell (p := ⟨gC, pre.length * 5 + 1, none⟩) (Nat.le_of_succ_le hgC1) (.int .i64 0)).setCell (p := ⟨gC, pre.length * 5 + 2, none⟩) (Nat.le_of_succ_le hgC1) (.int .i64 0)).setCell (p := ⟨gC, pre.length * 5 + 3, none⟩) (Nat.le_of_succ_le hgC1) (.int .i64 0)).setCell (p := ⟨gC, pre.length * 5 + 4, none⟩) (Nat.le_of_succ_le hgC1) (.int .i64 0))
          simp only [ins1] at HT8
          clear q0 hv0 hv1 hv2 hv3 hv4 g0 g1 g2 g3 g4 hzi
          generalize (((((wr.setCell ⟨gC, pre.length * 5, none⟩ (.int .i64 9)).setCell ⟨gC, pre.length * 5 + 1, none⟩ (.int .i64 0)).setCell ⟨gC, pre.length * 5 + 2, none⟩ (.int .i64 0)).setCell ⟨gC, pre.length * 5 + 3, none⟩ (.int .i64 0)).setCell ⟨gC, pre.length * 5 + 4, none⟩ (.int .i64 0)) = W8 at *
          have hS8 := HS8.out
          have hT8 := HT8.out
          rw [HJZ.out] at hT8
          have HT9 := Lib.hid hT8
          clear hS8 hT8
          have F0 : ∀ w' : World, Cells3 ⟨gm, 1, none⟩ ⟨fb, 0, none⟩ ⟨fb, 1, none⟩ (.slice G gs.length cG) (.slice (some ⟨gC, 0, none⟩) Z c) (.slice S Z sc) w' → w'.cell? ⟨gm, 1, none⟩ = some (.slice G gs.length cG) := fun _ h => h.1
          have F1 : ∀ w' : World, Cells3 ⟨gm, 1, none⟩ ⟨fb, 0, none⟩ ⟨fb, 1, none⟩ (.slice G gs.length cG) (.slice (some ⟨gC, 0, none⟩) Z c) (.slice S Z sc) w' → w'.cell? ⟨fb, 0, none⟩ = some (.slice (some ⟨gC, 0, none⟩) Z c) := fun _ h => h.2.1
          have F2 : ∀ w' : World, Cells3 ⟨gm, 1, none⟩ ⟨fb, 0, none⟩ ⟨fb, 1, none⟩ (.slice G gs.length cG) (.slice (some ⟨gC, 0, none⟩) Z c) (.slice S Z sc) w' → w'.cell? ⟨fb, 1, none⟩ = some (.slice S Z sc) := fun _ h => h.2.2
          refine region_mixE (Cells3 ⟨gm, 1, none⟩ ⟨fb, 0, none⟩ ⟨fb, 1, none⟩ (.slice G gs.length cG) (.slice (some ⟨gC, 0, none⟩) Z c) (.slice S Z sc)) 3 [7, 0] (by kernel_rfl) (by kernel_rfl) (by kernel_rfl) (fun _ _ d _ _ h => by cases d <;> exact h) ⟨HS8.out.blk.cell 1, HT9.out.fblk.cell 0, HT9.out.fblk.cell 1⟩ ?_
          (try simp only [Act.put, List.setIfInBounds_toArray, List.set_cons_zero, List.set_cons_succ]); refine mixE_seg ?_; simp only [List.take_succ_cons, List.take_zero, List.drop_succ_cons, List.drop_zero]; (repeat (first | go_big_quiet_skip | (go_big_quiet_want; first | (go_big_quiet_op; first | go_big_quiet_on | ((first | with_reducible refine ⟨_, fun _ _ => rfl, ?_⟩); go_big_quiet_on)) | (simp (contextual := true) [go_sem, F0, F1, F2]; with_reducible refine ⟨_, fun _ _ => rfl, ?_⟩; go_big_quiet_on)))); refine wpQuiet_nil ?_
          go_wp2_with fail
          refine ⟨⟨(HS8.out.blk.alloc _).cell 1, (HT9.out.fblk.alloc _).cell 0, (HT9.out.fblk.alloc _).cell 1⟩, ?_⟩
          (try simp only [Act.put, List.setIfInBounds_toArray, List.set_cons_zero, List.set_cons_succ]); refine mixE_seg ?_; simp only [List.take_succ_cons, List.take_zero, List.drop_succ_cons, List.drop_zero]; (repeat (first | go_big_quiet_skip | (go_big_quiet_want; first | (go_big_quiet_op; first | go_big_quiet_on | ((first | with_reducible refine ⟨_, fun _ _ => rfl, ?_⟩); go_big_quiet_on)) | (simp (contextual := true) [go_sem, F0, F1, F2]; with_reducible refine ⟨_, fun _ _ => rfl, ?_⟩; go_big_quiet_on)))); refine wpQuiet_nil ?_
          have hk1 : k + 1 ≤ 17 := by omega
          have c1 : Hid (gs.length + 1 ≤ maxLen) := by unfold maxLen; show _ ≤ _; rw [HLEN.out]; omega
          have c2 : Hid ((gs.length + 1) * 48 ≤ 140737488355328) := by show _ ≤ _; rw [HLEN.out]; omega
          have c3 : Hid (gm + 1 ≤ W8.heap.size + 1) := by show _ ≤ _; have := HS8.out.blk.lt; omega
          go_wp2_with (at_builtin; go_must (refine wpList_append_1 _ rfl (.tmp 67) (.tmp 69) 30 rfl (gm + 1) 41 i0 _ 2 48 Tryd.underlying30 HI.out HZ0.out HZ1.out HZ2.out rfl (by decide) _ _ _ _ rfl (HS8.out.own.alloc _) ⟨W8.heap.size, 0, none⟩ 1 (fnaVals ⟨some ⟨gC, 0, none⟩, Z, c, S, Z, sc⟩) rfl rfl (cells2 (by simp [go_sem]) (by simp [go_sem])) (by simp [fnaVals, Value.oneCell']) c1.out c2.out (by have := c3.out; simp; omega) ?_); intro G' cG' w9 hown1 hgrow0 hat1)
          have hgrow1 : (W8.alloc (.cells #[.slice (some ⟨gC, 0, none⟩) Z c, .slice S Z sc] 41)).grownBy w9 (ob G) := ⟨hgrow0.os, hgrow0.tape, hgrow0.output, hgrow0.size, hgrow0.block⟩
          clear hgrow0
          have hgn : ob G ≠ some gm := fun e => by have := (HS8.out.own.lt gm e).1; omega
          have hb9 := (HS8.out.blk.alloc _).grown hgrow1 (fun e => hgn e.symm)
          have hfn : ob G ≠ some fb := fun e => by have := HS8.out.hG fb e; omega
          have hf9 := (HT9.out.fblk.alloc _).grown hgrow1 (fun e => hfn e.symm)
          have s1 := hb9.cell 1
          have s2 := hb9.frozen 1
          simp at s1
          refine ⟨⟨hb9.cell 1, hf9.cell 0, hf9.cell 1⟩, ?_⟩
          (try simp only [Act.put, List.setIfInBounds_toArray, List.set_cons_zero, List.set_cons_succ]); refine mixE_end ?_; simp only [List.take_succ_cons, List.take_zero, List.drop_succ_cons, List.drop_zero]; (repeat (first | go_big_quiet_skip | (go_big_quiet_want; first | (go_big_quiet_op; first | go_big_quiet_on | ((first | with_reducible refine ⟨_, fun _ _ => rfl, ?_⟩); go_big_quiet_on)) | (simp (contextual := true) [go_sem, F0, F1, F2]; with_reducible refine ⟨_, fun _ _ => rfl, ?_⟩; go_big_quiet_on)))); refine wpQuiet_nil ?_
          obtain ⟨hS9, hD9⟩ := HS8.out.push HT9.out (by
            intro i hi
            rw [List.mem_append] at hi
            rcases hi with hi | hi
            · exact (HGI.out i (by simp [hi])).2
            · rw [List.mem_singleton] at hi; subst hi; exact insOk_small _ (by simp)) (by omega) hgrow1 hown1 hat1
          have HS9 := Lib.hid hS9
          have HD9 := Lib.hid hD9
          clear F0 F1 F2 hgrow1 hown1 hat1 hb9 hf9 hS9 hD9 c1 c2 c3 hgn hfn
          go_wp2_with fail
          go_roundw
          case rel => exact ⟨k + 1, G', cG', _, _, _, by omega, by go_num, by rw [List.length_append, HLEN.out]; rfl, (fun f hf => by
            rw [List.mem_append] at hf
            rcases hf with hf | hf
            · exact HGOOD.out f hf
            · rw [List.mem_singleton] at hf
              subst hf
              exact ⟨by simp; exact HPL.out, pre, rfl, fun i hi => HGI.out i (by simp [hi])⟩), HS9.out, HD9.out⟩
          case measure => simp [intOf]; omega
    · have hkn : k = F := by omega
      have HKN := Lib.hid hkn
      have m1 := HS.out.blk.cell 1
      simp at m1
      clear hkn
      go_wp2_with fail
      refine (mend_own _ _ gs _ (HS.out.tab HT.out) (by rw [HLEN.out]; omega) (by
        intro f hf
        have := (HGOOD.out f hf).1
        omega) HS.out.ok).mono ?_
      rintro e w10 ⟨A10, c10, rfl, hf10, hb10⟩
      have HF10 := Lib.hid hf10
      have hr10 := HS.out.res.below hb10 HS.out.res.lt
      have q0 := hr10.cell 0
      have q1 := hr10.frozen 0
      have q2 := hr10.lt
      simp at q0
      have HB10 := Lib.hid (HS.out.low.trans (hb10.mono HS.out.low.size))
      have hlt9 : w.heap.size < wr.heap.size := HS.out.res.lt
      clear hf10 hb10 hr10 m1
      go_wp2_with fail
      exact bodyPost_ret (v := .tuple #[.agg #[.slice A10 gs.length c10], .int .i64 0]) (by simp [results, Tryd.results39, go_sem, q0]) rfl ⟨gs, by rw [HLEN.out, HKN.out], HGOOD.out, A10, c10, rfl, (HF10.out.far (p := ⟨w.heap.size, 0, none⟩) hlt9 _).ok, HB10.out.setCell (Nat.le_refl _) _⟩
end Go.Proofs.YtlkmpafendggiaaDoor

/-
  Chapter 27: the reference's Check (printed by rck27.py).
-/
import Derived.Test.YtkfpnppppmccdaaDoorRdo27
import Derived.Test.YtkfpnppppmccdaaDoorRnw27
namespace Go.Proofs.YtkfpnppppmccdaaDoor
open Go.RowKit
theorem Tryd.infoEv5 (a b c d e : Value) : (Tryd.prog.info? 43).map (·.size) = some (#[a, b, c, d, e] : Array Value).size := by kernel_rfl
/-- A model stays where it is, if a box is written. -/
theorem ris_box {w V : World} {F A : Option Addr} {fs : List Fn} {M : Md} {rs : List Pg} (hR : RIs V F fs M A rs) (hf : FnsOk w w.heap.size F fs) (hb : Below w.heap.size w V) {q : Nat} (hq : w.heap.size ≤ q) {t : TypeId} {old : Array Value} (hblk : Blk V q t old) (hs : old.size ≤ 15) (hst : ∀ z ∈ rs, z.x.th.stack ≠ [] → ∀ b, ob z.B = some b → b ≠ q) (cs : Array Value) :
    RIs (V.setRow q cs) F fs M A rs ∧ Below w.heap.size w (V.setRow q cs) := by
  have hbn : Below w.heap.size w (V.setRow q cs) := below_setRow hb hq hb.size cs
  have hm : Mv [q] V (V.setRow q cs) := (Mv.refl [q] V).setRow q cs (by simp)
  refine ⟨⟨hR.hl, row_mv hR.row hm (fun hne b hb' => ?_), fun z hz => thok_mv (hR.th z hz) hm (fun hx b hb' => ?_), hR.few, ⟨hf.step hbn, hR.prog.2⟩, hR.fits, hR.stk⟩, hbn⟩
  · have hr0 : 0 < rs.length := by
      rcases rs with _ | ⟨a, l⟩
      · exact absurd rfl hne
      · simp
    obtain ⟨b1, off, hA, -, hc⟩ := pg_at hR.row hr0
    have e1 : b1 = b := by rw [hA] at hb'; simpa [ob] using hb'
    intro hcon
    have e2 : b = q := by simpa using hcon
    have hl : 15 < (pgVals rs[0]).length := by rw [pgVals_len]; decide
    have h15 := hc 15 _ (List.getElem?_eq_getElem hl)
    rw [e1, e2, hblk.cell, Array.getElem?_eq_none (by omega)] at h15
    cases h15
  · have := hst z hz hx b hb'
    simpa using this
theorem ob_lt {V : World} {F A : Option Addr} {fs : List Fn} {M : Md} {rs : List Pg} (h : RIs V F fs M A rs) (z : Pg) (hz : z ∈ rs) (hs : z.x.th.stack ≠ []) (b : Nat) (hb : ob z.B = some b) : b < V.heap.size := by
  rcases (h.th z hz).row with h1 | ⟨b1, off, e, hlt, -⟩
  · rcases hx : z.x.th.stack with _ | ⟨a, l⟩
    · exact absurd hx hs
    · rw [hx] at h1
      have h2 := congrArg List.length h1
      simp [frVals] at h2
  · rw [e] at hb
    have : b1 = b := by simpa [ob] using hb
    omega
/-- The reference's model lies in its box. -/
structure BoxI (w V : World) (qm : Nat) (F : Option Addr) (fc : Nat) (fs : List Fn) (M : Md) (A : Option Addr) (c : Nat) (rs : List Pg) : Prop where
  blk : Blk V qm 47 (MV F fs.length fc M.gs A rs.length c M.holder M.owner)
  ris : RIs V F fs M A rs
  bel : Below w.heap.size w V
  far : w.heap.size ≤ qm
  stk : ∀ z ∈ rs, z.x.th.stack ≠ [] → ∀ b, ob z.B = some b → b ≠ qm
section
variable {w V Y : World} {qm : Nat} {F A A' : Option Addr} {fc c c' : Nat} {fs : List Fn} {M M2 : Md} {rs rs' : List Pg}
theorem BoxI.put (h : BoxI w V qm F fc fs M A c rs) (hf : FnsOk w w.heap.size F fs) (hb : Below V.heap.size V Y) (hr : RIs Y F fs M2 A' rs') (ho : Old V rs rs') : BoxI w (Y.setRow qm (MV F fs.length fc M2.gs A' rs'.length c' M2.holder M2.owner)) qm F fc fs M2 A' c' rs' := by
  have hk := h.blk.below hb h.blk.lt
  have hst : ∀ z ∈ rs', z.x.th.stack ≠ [] → ∀ b, ob z.B = some b → b ≠ qm := fun z hz hs b hb' => by
    rcases ho z hz hs b hb' with ⟨z0, h0, h1, h2⟩ | h3
    · exact h.stk z0 h0 h1 b h2
    · have := h.blk.lt
      omega
  have hy : Below w.heap.size w Y := h.bel.trans (hb.mono h.bel.size)
  have hx := ris_box hr hf hy h.far hk (by rw [mv_size]; decide) hst (MV F fs.length fc M2.gs A' rs'.length c' M2.holder M2.owner)
  exact ⟨hk.setRow _, hx.1, hx.2, h.far, hst⟩
end
/-- The model lies in its box, behind k events. -/
def ChR (w : World) (qm : Nat) (F : Option Addr) (fc : Nat) (fs : List Fn) (g : Int) (evs : List Ev) (k : Nat) (wr : World) : Prop :=
  ∃ M A c rs, BoxI w wr qm F fc fs M A c rs ∧ M.gs = g ∧ runE fs (md0 g) evs 0 = runE fs M (evs.drop k) k
theorem ev_at {w : World} {B : Nat} {A : Option Addr} {evs : List Ev} (h : Row w B A (evs.flatMap evVals)) {k : Nat} (hk : k < evs.length) :
    ∃ b off, A = some ⟨b, off, none⟩ ∧ b < B ∧ ∀ j v, (evArr evs[k])[j]? = some v → w.cell? ⟨b, off + k * 5 + j, none⟩ = some v := by
  have hl := flat_length (f := evVals) (size := 5) (fun _ => rfl) evs
  obtain ⟨b, off, e, hb, hc⟩ := h.at_ (k := k * 5) (by rw [hl]; omega)
  have hg : evs[k]? = some evs[k] := List.getElem?_eq_getElem hk
  refine ⟨b, off, e, hb, fun r u hu => ?_⟩
  rw [Nat.add_assoc]
  exact hc _ _ (flat_at (f := evVals) (size := 5) (fun _ => rfl) evs k r evs[k] u hg (by unfold evVals; simpa using hu))
set_option maxRecDepth 10000 in
set_option maxHeartbeats 4000000 in
theorem rcheck27_any {w : World} {F EA : Option Addr} {fc ec : Nat} {fs : List Fn} (hf : FnsOk w w.heap.size F fs) (hfl : fs.length ≤ maxLen) (p g q0 : Int) (evs : List Ev) (n : Nat) (hn : evs.length = n) (hn2 : n ≤ maxLen) (hev : Row w w.heap.size EA (evs.flatMap evVals)) :
    Calls Tryd.prog 10 #[.agg #[.slice F fs.length fc], .agg #[.int .i64 p, .int .i64 g, .int .i64 q0], .slice EA n ec] w fun r w' => r = .returned (.tuple #[.int .i64 (chkP fs p g q0 evs).1, .int .i64 (chkP fs p g q0 evs).2]) ∧ Below w.heap.size w w' := by
  obtain ⟨r1, HR1⟩ : ∃ x, Hid (x = (chkP fs p g q0 evs).1) := ⟨_, Lib.hid rfl⟩
  obtain ⟨r2, HR2⟩ : ∃ x, Hid (x = (chkP fs p g q0 evs).2) := ⟨_, Lib.hid rfl⟩
  rw [← HR1.out, ← HR2.out]
  obtain ⟨W, HW⟩ : ∃ W, Hid (W = (w.alloc (.cells #[.slice F fs.length fc] 24)).alloc (.cells #[.int .i64 p, .int .i64 g, .int .i64 q0] 26)) := ⟨_, Lib.hid rfl⟩
  have HBW := Lib.hid (show Below w.heap.size w W by rw [HW.out]; exact below2 w _ _)
  have HNW := Lib.hid (rnew27_any (w := W) (F := F) (fc := fc) (fs := fs) (hf.step HBW.out) hfl p g q0)
  have HF := Lib.hid hf
  have HN := Lib.hid hn
  have HEV := Lib.hid hev
  have hw := HW.out
  unfold maxLen at hn2
  clear hf hfl hn hev
  go_enter Tryd.func10, Tryd.ntmps10
  go_wp2_with fail
  rw [← hw]
  clear hw
  refine HNW.out.mono ?_
  rintro e W1 ⟨hb1, ⟨hne, rfl⟩ | ⟨h0, A0, c0, rs0, rfl, hR0, hlen, -⟩⟩
  · have HB1 := Lib.hid (HBW.out.trans (hb1.mono HBW.out.size))
    have HP := Lib.hid (show chkP fs p g q0 evs = (-1, newF fs p g q0) by unfold chkP; rw [if_neg hne])
    obtain ⟨f, HFF⟩ : ∃ x, Hid (x = newF fs p g q0) := ⟨_, Lib.hid rfl⟩
    rw [← HFF.out] at HP hne ⊢
    have e1 : (f == 0) = false := by simpa using hne
    have e2 : (f != 0) = true := by simpa using hne
    clear hb1 hne
    go_wp2_with (refine wpList_store_row rfl 47 _ _ rfl (W1.heap.size) (MV none 0 0 0 none 0 0 0 0) rfl rfl 47 _ (Blk.new W1 _ _) (mv_info _ _ _ _ _ _ _ _ _) (mv_size _ _ _ _ _ _ _ _ _).symm (mv_one _ _ _ _ _ _ _ _ _) ?_)
    go_ret2
    rw [HR1.out, HR2.out, HP.out]
    exact ⟨rfl, below_setRow (HB1.out.alloc HB1.out.size _) HB1.out.size (HB1.out.alloc HB1.out.size _).size _⟩
  · have HB1 := Lib.hid (HBW.out.trans (hb1.mono HBW.out.size))
    have HP := Lib.hid (show chkP fs p g q0 evs = runE fs (md0 g) evs 0 by unfold chkP; rw [if_pos h0])
    have HG := Lib.hid (newF_gs h0).2
    have HR0 := Lib.hid hR0
    have HLEN := Lib.hid hlen
    clear hb1 h0 hR0 hlen
    go_upto_region 4 with (refine wpList_store_row rfl 47 _ _ rfl (W1.heap.size) (MV F fs.length fc g A0 1 c0 0 0) rfl rfl 47 _ (Blk.new W1 _ _) (mv_info _ _ _ _ _ _ _ _ _) (mv_size _ _ _ _ _ _ _ _ _).symm (mv_one _ _ _ _ _ _ _ _ _) ?_)
    obtain ⟨V0, HV0⟩ : ∃ X, Hid (X = (W1.alloc (.cells #[.slice none 0 0, .int .i64 0, .slice none 0 0, .int .i64 0, .int .i64 0] 47)).setRow W1.heap.size (MV F fs.length fc g A0 1 c0 0 0)) := ⟨_, Lib.hid rfl⟩
    obtain ⟨qm, HQM⟩ : ∃ x, Hid (x = W1.heap.size) := ⟨_, Lib.hid rfl⟩
    have HCI := Lib.hid (show ChR w qm F fc fs g evs 0 V0 by
      have hbv : Below W1.heap.size W1 V0 := by rw [HV0.out]; exact below_setRow ((Below.refl _ W1).alloc (Nat.le_refl _) _) (Nat.le_refl _) (by rw [World.size_alloc]; omega) _
      refine ⟨md0 g, A0, c0, rs0, ⟨?_, HR0.out.step hbv, HB1.out.trans (hbv.mono HB1.out.size), by rw [HQM.out]; exact HB1.out.size, fun z hz hs => ?_⟩, rfl, rfl⟩
      · rw [HLEN.out, HV0.out, HQM.out]
        exact (Blk.new W1 _ _).setRow _
      · have h1 : z.x ∈ (md0 g).l := by rw [HR0.out.hl]; exact List.mem_map.2 ⟨z, hz, rfl⟩
        have h2 : z.x = newGo 0 0 := by simpa [md0] using h1
        rw [h2] at hs
        exact absurd rfl hs)
    rw [← HV0.out, ← HQM.out]
    go_wp2_with fail
    go_loopw [10] (fun vi wr => ∃ k : Nat, k ≤ n ∧ vi = .int .i64 k ∧ Hid (ChR w qm F fc fs g evs k wr)) (fun vi _ => n - (intOf vi).toNat)
    case atStart => exact ⟨0, Nat.zero_le _, rfl, HCI⟩
    case round =>
      obtain ⟨k, hk, rfl, HC⟩ := hrel
      by_cases hlt : k < n
      · obtain ⟨M, A, c, rs, hB, hgs, hrun⟩ := HC.out
        have HKL := Lib.hid (show k < evs.length by have := HN.out; omega)
        have HB := Lib.hid hB
        have HBR := Lib.hid hB.bel
        obtain ⟨b, off, rfl, hbl, hvc⟩ := ev_at ((HEV.out.below HBR.out).more HBR.out.size) HKL.out
        have HRUN := Lib.hid hrun
        have HGS := Lib.hid hgs
        have LM : ∀ w', SB27 wr w' → (loadVar 47 ⟨qm, 0, none⟩).run Tryd.prog w' = .ok (.agg (MV F fs.length fc M.gs A rs.length c M.holder M.owner)) w' := fun w' h => run_loadVar_cells w' qm 0 _ _ _ (fun j v hv => by rw [Nat.zero_add]; exact (Blk.cell (HB.out.blk.below h HB.out.blk.lt) j).trans hv) Tryd.underlying47 rfl (mv_info _ _ _ _ _ _ _ _ _)
        have LE : ∀ w', SB27 wr w' → (loadVar 43 ⟨b, off + k * 5, none⟩).run Tryd.prog w' = .ok (.agg (evArr evs[k])) w' := fun w' h => run_loadVar_cells w' b (off + k * 5) _ _ _ (fun j v hv => (Below.cell (p := ⟨b, off + k * 5 + j, none⟩) h hbl).trans (hvc j v hv)) Tryd.underlying43 rfl (Tryd.infoEv5 _ _ _ _ _)
        have HSTEP := Lib.hid (show runE fs M (evs.drop k) k = if (doP fs M evs[k]).2 = true then runE fs (doP fs M evs[k]).1 (evs.drop (k + 1)) (k + 1) else ((k : Int), 9) by
          rw [List.drop_eq_getElem_cons HKL.out]
          rfl)
        have HDO := Lib.hid (fun (V : World) (hV : Below wr.heap.size wr V) => (rdo_any27 (c := c) (fc := fc) (HB.out.ris.step hV) rfl (by rw [HGS.out]; have := HG.out; omega) evs[k]))
        have HDG := Lib.hid (doP_gs fs M evs[k])
        obtain ⟨⟨M2, bo⟩, HDR⟩ : ∃ r, Hid (r = doP fs M evs[k]) := ⟨_, Lib.hid rfl⟩
        rw [← HDR.out] at HSTEP HDO HDG
        have HVD := Lib.hid (show SB27 wr wr.drew from (Below.refl _ wr).drew)
        clear hB hgs hrun hbl hvc
        go_upto_region 7 with (fail)
        refine region_tree (SB27 wr) (.two [0, 1, 2, 3, 4] 5 (.one [6, 7, 8] 9 (.one [] 10 (.fin [11]))) 9 (.one [] 5 (.one [6, 7, 8] 10 (.fin [11])))) (by kernel_rfl) (by kernel_rfl) (by kernel_rfl) (fun _ _ d _ _ h => by cases d <;> exact h) HVD.out ?_
        (try simp only [Act.put, List.setIfInBounds_toArray, List.set_cons_zero, List.set_cons_succ]); refine tree_two ?_; simp only [pickOps, List.getElem?_toArray, List.getElem?_cons_zero, List.getElem?_cons_succ]; (repeat (first | (refine quiet_load_at (by rfl) 47 _ rfl ⟨qm, 0, none⟩ rfl (MV F fs.length fc M.gs A rs.length c M.holder M.owner) LM ?_; simp only [Act.put, List.setIfInBounds_toArray, List.set_cons_zero, List.set_cons_succ]) | (refine quiet_load_at (by rfl) 43 _ rfl ⟨b, off + k * 5, none⟩ rfl (evArr evs[k]) LE ?_; simp only [Act.put, List.setIfInBounds_toArray, List.set_cons_zero, List.set_cons_succ]) | go_big_quiet_skip | (go_big_quiet_want; first | (go_big_quiet_op; first | go_big_quiet_on | ((first | with_reducible refine ⟨_, fun _ _ => rfl, ?_⟩); go_big_quiet_on)) | (simp (contextual := true) [go_sem, HN]; with_reducible refine ⟨_, fun _ _ => rfl, ?_⟩; go_big_quiet_on)))); refine wpQuiet_nil ?_
        clear LM LE
        refine ⟨?_, ?_⟩
        · go_wp2_with (go_at_call 19; refine (HDO.out _ HVD.out).mono ?_; rintro e V3 ⟨A', c', rs', he, hb3, hr3, ho3, -⟩)
          have he' : e = .returned (.tuple #[.agg (MV F fs.length fc M2.gs A' rs'.length c' M2.holder M2.owner), .bool bo]) := he
          subst he'
          clear he
          have HB3 := Lib.hid (show SB27 wr V3 from Below.trans HVD.out (hb3.mono (Below.size HVD.out)))
          have HR3 := Lib.hid (show RIs V3 F fs M2 A' rs' from hr3)
          have HO3 := Lib.hid (show Old wr rs rs' from fun z hz hs b hb => (ho3 z hz hs b hb).imp id (fun h => Nat.le_trans (Below.size HVD.out) h))
          clear hb3 hr3 ho3
          refine ⟨SB27 wr, HB3.out, fun _ h => h, ?_⟩
          (try simp only [Act.put, List.setIfInBounds_toArray, List.set_cons_zero, List.set_cons_succ]); refine tree_one ?_; simp only [pickOps, List.getElem?_toArray, List.getElem?_cons_zero, List.getElem?_cons_succ]; (repeat (first | go_big_quiet_skip | (go_big_quiet_want; first | (go_big_quiet_op; first | go_big_quiet_on | ((first | with_reducible refine ⟨_, fun _ _ => rfl, ?_⟩); go_big_quiet_on)) | (simp (contextual := true) [go_sem, HN]; with_reducible refine ⟨_, fun _ _ => rfl, ?_⟩; go_big_quiet_on)))); refine wpQuiet_nil ?_
          go_wp2_with fail
          refine ⟨SB27 wr, Below.alloc HB3.out (Below.size HB3.out) _, fun _ h => h, ?_⟩
          (try simp only [Act.put]); refine tree_one ?_; simp only [pickOps, List.getElem?_toArray, List.getElem?_cons_zero, List.getElem?_cons_succ]; (repeat (first | go_big_quiet_skip | (go_big_quiet_want; first | (go_big_quiet_op; first | go_big_quiet_on | ((first | with_reducible refine ⟨_, fun _ _ => rfl, ?_⟩); go_big_quiet_on)) | (simp (contextual := true) [go_sem, HN]; with_reducible refine ⟨_, fun _ _ => rfl, ?_⟩; go_big_quiet_on)))); refine wpQuiet_nil ?_
          go_wp2_with (refine wpList_store_row rfl 47 _ _ rfl (V3.heap.size) (MV F fs.length fc M2.gs A' rs'.length c' M2.holder M2.owner) rfl rfl 47 _ (Blk.new V3 _ _) (mv_info _ _ _ _ _ _ _ _ _) (mv_size _ _ _ _ _ _ _ _ _).symm (mv_one _ _ _ _ _ _ _ _ _) ?_)
          obtain ⟨Y, HY⟩ : ∃ X, Hid (X = (V3.alloc (.cells #[.slice none 0 0, .int .i64 0, .slice none 0 0, .int .i64 0, .int .i64 0] 47)).setRow V3.heap.size (MV F fs.length fc M2.gs A' rs'.length c' M2.holder M2.owner)) := ⟨_, Lib.hid rfl⟩
          obtain ⟨q9, HQ9⟩ : ∃ x, Hid (x = V3.heap.size) := ⟨_, Lib.hid rfl⟩
          have HBY := Lib.hid (show SB27 wr Y by rw [HY.out]; exact below_setRow (Below.alloc HB3.out (Below.size HB3.out) _) (Below.size HB3.out) (Below.size (Below.alloc HB3.out (Below.size HB3.out) _)) _)
          have HK9 := Lib.hid (show Blk Y q9 47 (MV F fs.length fc M2.gs A' rs'.length c' M2.holder M2.owner) by rw [HY.out, HQ9.out]; exact (Blk.new V3 _ _).setRow _)
          have HRY := Lib.hid (show RIs Y F fs M2 A' rs' from HR3.out.step (by rw [HY.out]; exact below_setRow ((Below.refl _ V3).alloc (Nat.le_refl _) _) (Nat.le_refl _) (by rw [World.size_alloc]; omega) _))
          rw [← HY.out, ← HQ9.out]
          refine ⟨SB27 wr, HBY.out, fun _ h => h, ?_⟩
          (try simp only [Act.put]); refine tree_fin ?_; simp only [pickOps, List.getElem?_toArray, List.getElem?_cons_zero, List.getElem?_cons_succ]; (repeat (first | go_big_quiet_skip | (go_big_quiet_want; first | (go_big_quiet_op; first | go_big_quiet_on | ((first | with_reducible refine ⟨_, fun _ _ => rfl, ?_⟩); go_big_quiet_on)) | (simp (contextual := true) [go_sem, HN]; with_reducible refine ⟨_, fun _ _ => rfl, ?_⟩; go_big_quiet_on)))); refine wpQuiet_nil ?_
          cases bo with
          | true =>
            have HC2 := Lib.hid (show ChR w qm F fc fs g evs (k + 1) (Y.setRow qm (MV F fs.length fc M2.gs A' rs'.length c' M2.holder M2.owner)) from
              ⟨M2, A', c', rs', HB.out.put HF.out HBY.out HRY.out HO3.out, HDG.out.trans HGS.out, by rw [HRUN.out, HSTEP.out, if_pos rfl]⟩)
            go_wp2_with (first | (refine wpList_load_row rfl 47 _ rfl (q9) rfl 47 (MV F fs.length fc M2.gs A' rs'.length c' M2.holder M2.owner) (0, 0) _ (HK9.out) Tryd.underlying47 rfl (mv_info _ _ _ _ _ _ _ _ _) ?_) | (refine wpList_store_row rfl 47 _ _ rfl (qm) (MV F fs.length fc M2.gs A' rs'.length c' M2.holder M2.owner) rfl rfl 47 _ (HB.out.blk.below HBY.out HB.out.blk.lt) (mv_info _ _ _ _ _ _ _ _ _) (mv_size _ _ _ _ _ _ _ _ _).symm (mv_one _ _ _ _ _ _ _ _ _) ?_))
            go_roundw
            case rel => exact ⟨k + 1, by omega, by go_num, HC2⟩
            case measure => simp [intOf]; omega
          | false =>
            have HEND := Lib.hid (show runE fs (md0 g) evs 0 = ((k : Int), 9) by rw [HRUN.out, HSTEP.out, if_neg (by decide)])
            go_wp2_with fail
            go_ret2
            rw [HR1.out, HR2.out, HP.out, HEND.out]
            exact ⟨rfl, HBR.out.trans (Below.mono HBY.out HBR.out.size)⟩
        · go_wp2_with fail
          obtain ⟨v8, HV8⟩ : ∃ X, Hid (X = (wr.alloc (.cells #[.slice none 0 0, .int .i64 0, .slice none 0 0, .int .i64 0, .int .i64 0] 47)).drew) := ⟨_, Lib.hid rfl⟩
          obtain ⟨q9, HQ9⟩ : ∃ x, Hid (x = wr.heap.size) := ⟨_, Lib.hid rfl⟩
          have HBA := Lib.hid (show SB27 wr v8 by rw [HV8.out]; exact ((Below.refl wr.heap.size wr).alloc (Nat.le_refl _) _).drew)
          have HKA := Lib.hid (show Blk v8 q9 47 #[.slice none 0 0, .int .i64 0, .slice none 0 0, .int .i64 0, .int .i64 0] by rw [HV8.out, HQ9.out]; exact (Blk.new wr _ _).drew)
          have HL9 := Lib.hid (show wr.heap.size ≤ q9 by rw [HQ9.out]; exact Nat.le_refl _)
          rw [← HV8.out, ← HQ9.out]
          refine ⟨SB27 wr, HBA.out, fun _ h => h, ?_⟩
          (try simp only [Act.put, List.setIfInBounds_toArray, List.set_cons_zero, List.set_cons_succ]); refine tree_one ?_; simp only [pickOps, List.getElem?_toArray]; (repeat (first | go_big_quiet_skip | (go_big_quiet_want; first | (go_big_quiet_op; first | go_big_quiet_on | ((first | with_reducible refine ⟨_, fun _ _ => rfl, ?_⟩); go_big_quiet_on)) | (simp (contextual := true) [go_sem, HN]; with_reducible refine ⟨_, fun _ _ => rfl, ?_⟩; go_big_quiet_on)))); refine wpQuiet_nil ?_
          go_wp2_with (go_at_call 19; refine (HDO.out _ HBA.out).mono ?_; rintro e V3 ⟨A', c', rs', he, hb3, hr3, ho3, -⟩)
          have he' : e = .returned (.tuple #[.agg (MV F fs.length fc M2.gs A' rs'.length c' M2.holder M2.owner), .bool bo]) := he
          subst he'
          clear he
          have HB3 := Lib.hid (show SB27 wr V3 from Below.trans HBA.out (hb3.mono (Below.size HBA.out)))
          have HR3 := Lib.hid (show RIs V3 F fs M2 A' rs' from hr3)
          have HK3 := Lib.hid (show Blk V3 q9 47 #[.slice none 0 0, .int .i64 0, .slice none 0 0, .int .i64 0, .int .i64 0] from HKA.out.below hb3 HKA.out.lt)
          have HO3 := Lib.hid (show Old wr rs rs' from fun z hz hs b hb => (ho3 z hz hs b hb).imp id (fun h => Nat.le_trans (Below.size HBA.out) h))
          have HS3 := Lib.hid (show ∀ z ∈ rs', z.x.th.stack ≠ [] → ∀ b, ob z.B = some b → b ≠ q9 from fun z hz hs b hb => by
            rcases ho3 z hz hs b hb with ⟨z0, h0, h1, h2⟩ | h3
            · have h4 := ob_lt HB.out.ris z0 h0 h1 b h2
              have h5 := HL9.out
              omega
            · have h5 := HKA.out.lt
              omega)
          clear hb3 hr3 ho3
          refine ⟨SB27 wr, HB3.out, fun _ h => h, ?_⟩
          (try simp only [Act.put]); refine tree_one ?_; simp only [pickOps, List.getElem?_toArray, List.getElem?_cons_zero, List.getElem?_cons_succ]; (repeat (first | go_big_quiet_skip | (go_big_quiet_want; first | (go_big_quiet_op; first | go_big_quiet_on | ((first | with_reducible refine ⟨_, fun _ _ => rfl, ?_⟩); go_big_quiet_on)) | (simp (contextual := true) [go_sem, HN]; with_reducible refine ⟨_, fun _ _ => rfl, ?_⟩; go_big_quiet_on)))); refine wpQuiet_nil ?_
          go_wp2_with (refine wpList_store_row rfl 47 _ _ rfl (q9) (MV F fs.length fc M2.gs A' rs'.length c' M2.holder M2.owner) rfl rfl 47 _ (HK3.out) (mv_info _ _ _ _ _ _ _ _ _) (mv_size _ _ _ _ _ _ _ _ _).symm (mv_one _ _ _ _ _ _ _ _ _) ?_)
          obtain ⟨Y, HY⟩ : ∃ X, Hid (X = V3.setRow q9 (MV F fs.length fc M2.gs A' rs'.length c' M2.holder M2.owner)) := ⟨_, Lib.hid rfl⟩
          have HBY := Lib.hid (show SB27 wr Y by rw [HY.out]; exact below_setRow HB3.out HL9.out (Below.size HB3.out) _)
          have HK9 := Lib.hid (show Blk Y q9 47 (MV F fs.length fc M2.gs A' rs'.length c' M2.holder M2.owner) by rw [HY.out]; exact HK3.out.setRow _)
          have HRY := Lib.hid (show RIs Y F fs M2 A' rs' by
            rw [HY.out]
            exact (ris_box HR3.out (HF.out.step HBR.out) HB3.out HL9.out HK3.out (by decide) HS3.out _).1)
          rw [← HY.out]
          refine ⟨SB27 wr, HBY.out, fun _ h => h, ?_⟩
          (try simp only [Act.put]); refine tree_fin ?_; simp only [pickOps, List.getElem?_toArray, List.getElem?_cons_zero, List.getElem?_cons_succ]; (repeat (first | go_big_quiet_skip | (go_big_quiet_want; first | (go_big_quiet_op; first | go_big_quiet_on | ((first | with_reducible refine ⟨_, fun _ _ => rfl, ?_⟩); go_big_quiet_on)) | (simp (contextual := true) [go_sem, HN]; with_reducible refine ⟨_, fun _ _ => rfl, ?_⟩; go_big_quiet_on)))); refine wpQuiet_nil ?_
          cases bo with
          | true =>
            have HC2 := Lib.hid (show ChR w qm F fc fs g evs (k + 1) (Y.setRow qm (MV F fs.length fc M2.gs A' rs'.length c' M2.holder M2.owner)) from
              ⟨M2, A', c', rs', HB.out.put HF.out HBY.out HRY.out HO3.out, HDG.out.trans HGS.out, by rw [HRUN.out, HSTEP.out, if_pos rfl]⟩)
            go_wp2_with (first | (refine wpList_load_row rfl 47 _ rfl (q9) rfl 47 (MV F fs.length fc M2.gs A' rs'.length c' M2.holder M2.owner) (0, 0) _ (HK9.out) Tryd.underlying47 rfl (mv_info _ _ _ _ _ _ _ _ _) ?_) | (refine wpList_store_row rfl 47 _ _ rfl (qm) (MV F fs.length fc M2.gs A' rs'.length c' M2.holder M2.owner) rfl rfl 47 _ (HB.out.blk.below HBY.out HB.out.blk.lt) (mv_info _ _ _ _ _ _ _ _ _) (mv_size _ _ _ _ _ _ _ _ _).symm (mv_one _ _ _ _ _ _ _ _ _) ?_))
            go_roundw
            case rel => exact ⟨k + 1, by omega, by go_num, HC2⟩
            case measure => simp [intOf]; omega
          | false =>
            have HEND := Lib.hid (show runE fs (md0 g) evs 0 = ((k : Int), 9) by rw [HRUN.out, HSTEP.out, if_neg (by decide)])
            go_wp2_with fail
            go_ret2
            rw [HR1.out, HR2.out, HP.out, HEND.out]
            exact ⟨rfl, HBR.out.trans (Below.mono HBY.out HBR.out.size)⟩
      · have hkn : k = n := by omega
        subst hkn
        obtain ⟨M, A, c, rs, hB, hgs, hrun⟩ := HC.out
        have HEND := Lib.hid (show runE fs (md0 g) evs 0 = (-1, 0) by rw [hrun, List.drop_of_length_le (by rw [HN.out]; exact Nat.le_refl _)]; rfl)
        have HBR := Lib.hid hB.bel
        clear hB hgs hrun
        go_wp2_with fail
        go_ret2
        rw [HR1.out, HR2.out, HP.out, HEND.out]
        exact ⟨rfl, HBR.out⟩
end Go.Proofs.YtkfpnppppmccdaaDoor

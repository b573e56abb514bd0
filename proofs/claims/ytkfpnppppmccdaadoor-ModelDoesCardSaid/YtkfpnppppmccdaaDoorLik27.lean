/-
  Chapter 27: the law's like: the model and the reference's model stand alike (printed by lik27.py).
-/
import Derived.Test.YtkfpnppppmccdaaDoorRck27
import Derived.Test.YtkfpnppppmccdaaDoorRcn27
namespace Go.Proofs.YtkfpnppppmccdaaDoor
open Go.RowKit
theorem sameT_refl27 (t : Th) : sameT t t = true := by simp [sameT]
theorem getM_in {M : Md} {k : Nat} (hk : k < M.l.length) : getM M ((k : Int) + 1) = some k := by
  unfold getM
  rw [if_pos (by omega)]
  congr 1
  omega
theorem getM_out {M : Md} {n : Nat} (hn : M.l.length = n) : getM M ((n : Int) + 1) = none := by
  unfold getM
  rw [if_neg (by omega)]
theorem getM_zero (M : Md) : getM M 0 = none := by
  unfold getM
  rw [if_neg (by omega)]
theorem canP_none {fs : List Fn} {M : Md} {g : Int} (h : getM M g = none) : canP fs M g = false := by
  unfold canP actsP
  rw [h]
  simp
set_option maxRecDepth 10000 in
set_option maxHeartbeats 4000000 in
theorem like27 {w : World} {m gm : Nat} {F L A : Option Addr} {fc c c2 fc2 : Nat} {fs : List Fn} {M : Md} {ps : List Nat} {Bs : List (Option Addr × Nat)} {rs : List Pg} (h : MdIs w m gm F fc fs M ps L c Bs) (hs : m ≤ w.heap.size) (hR : RIs w F fs M A rs) (hgs : M.gs ≤ 100) (n : Nat) (hn : n = rs.length) :
    Calls Tryd.prog 20 #[.pointer (some ⟨gm, 0, none⟩), .agg (MV F fs.length fc2 M.gs A n c2 M.holder M.owner)] w fun e w' => e = .returned (.bool true) ∧ Below w.heap.size w w' := by
  obtain ⟨q, HQ⟩ : ∃ q, Hid (q = w.heap.size) := ⟨_, Lib.hid rfl⟩
  obtain ⟨W, HW⟩ : ∃ V, Hid (V = w.alloc (.cells (MV F fs.length fc2 M.gs A n c2 M.holder M.owner) 47)) := ⟨_, Lib.hid rfl⟩
  have HBW := Lib.hid (show Below w.heap.size w W by rw [HW.out]; exact (Below.refl w.heap.size w).alloc (Nat.le_refl _) _)
  have H1 := Lib.hid (show Blk W q 47 (MV F fs.length fc2 M.gs A n c2 M.holder M.owner) by rw [HW.out, HQ.out]; exact Blk.new _ _ _)
  have HMW := Lib.hid (h.step HBW.out hs)
  have HRW := Lib.hid (hR.step HBW.out)
  have HMS := Lib.hid (Nat.le_trans hs HBW.out.size)
  have HN := Lib.hid hn
  have HGS := Lib.hid hgs
  have HLN := Lib.hid (show M.l.length = n by rw [hR.len, hn])
  have HM := Lib.hid (fun (V : World) (hV : Below W.heap.size W V) => HMW.out.step hV HMS.out)
  have HMV := Lib.hid (fun (V : World) (hV : Below W.heap.size W V) => (Nat.le_trans HMS.out hV.size : m ≤ V.heap.size))
  have HRV := Lib.hid (fun (V : World) (hV : Below W.heap.size W V) => HRW.out.step hV)
  have HCNT := Lib.hid (fun (V : World) (hV : Below W.heap.size W V) => count27_any (HM.out V hV))
  rw [HLN.out] at HCNT
  have HF := Lib.hid (show n ≤ 100 by rw [hn]; exact hR.few)
  have HQC := Lib.hid (fun (V : World) (hV : Below W.heap.size W V) => mv_cells (H1.out.below hV H1.out.lt))
  have S2 : ∀ V, Below W.heap.size W V → V.cell? ⟨q, 2, none⟩ = some (.slice A n c2) := fun V hV => (HQC.out V hV).2.2.1
  have S3 : ∀ V, Below W.heap.size W V → V.cell? ⟨q, 3, none⟩ = some (.int .i64 M.holder) := fun V hV => (HQC.out V hV).2.2.2.1
  have S4 : ∀ V, Below W.heap.size W V → V.cell? ⟨q, 4, none⟩ = some (.int .i64 M.owner) := fun V hV => (HQC.out V hV).2.2.2.2
  have hw := HW.out
  have hq := HQ.out
  clear h hs hR hgs hn
  go_enter Tryd.func20, Tryd.ntmps20
  go_upto_region 1 with (fail)
  rw [← hw, ← hq]
  clear hw hq
  refine region_below W W.heap.size (by kernel_rfl) (by kernel_rfl) (Below.refl _ _) ?_
  repeat (first | go_big_quiet_skip | (go_big_quiet_want; first | (go_big_quiet_op; first | go_big_quiet_on | ((first | with_reducible refine ⟨_, fun _ _ => rfl, ?_⟩ | with_reducible refine ⟨_, fun w' hw' => calm_of_same hw' (HCNT.out w' hw'), ?_⟩ | with_reducible refine ⟨_, fun w' hw' => calm_of_same hw' (holder27_any (HM.out w' hw')), ?_⟩ | with_reducible refine ⟨_, fun w' hw' => calm_of_same hw' (owner27_any (HM.out w' hw')), ?_⟩); go_big_quiet_on)) | (simp (contextual := true) [go_sem, S2, S3, S4]; with_reducible refine ⟨_, fun _ _ => rfl, ?_⟩; go_big_quiet_on)))
  refine wpQuiet_nil ?_
  intro W1 hw1
  have HB1 := Lib.hid (show SB27 W W1 from hw1)
  clear hw1
  have hf := HF.out
  go_wp2_with fail
  go_loopw [5] (fun vi wr => ∃ k : Nat, k ≤ n ∧ vi = .int .i64 k ∧ Hid (SB27 W wr)) (fun vi _ => n - (intOf vi).toNat)
  case atStart => exact ⟨0, Nat.zero_le _, rfl, HB1⟩
  case round =>
    obtain ⟨k, hk, rfl, HBR⟩ := hrel
    have s2 := S2 wr HBR.out
    by_cases hlt : k < n
    · have HKL := Lib.hid (show k < rs.length by have := HN.out; omega)
      have HKM := Lib.hid (show k < M.l.length by have := HLN.out; omega)
      obtain ⟨z, HZE⟩ : ∃ z, Hid (z = rs[k]'HKL.out) := ⟨_, Lib.hid rfl⟩
      have HZM := Lib.hid (show z ∈ rs by rw [HZE.out]; exact List.getElem_mem _)
      have HGO := Lib.hid (show goAt M k = z.x by rw [HRW.out.goAt HKL.out, HZE.out])
      obtain ⟨b, off, rfl, hbl, hc0⟩ := pg_at (HRV.out wr HBR.out).row HKL.out
      rw [← HZE.out] at hc0
      have HC0 := Lib.hid (show ∀ j v, (pgVals z).toArray[j]? = some v → wr.cell? ⟨b, off + k * 16 + j, none⟩ = some v from fun j v hv => hc0 j v (by simpa using hv))
      clear hbl hc0
      go_upto_region 7 with (first | (refine wpList_load_cellsW (by rfl) 77 _ rfl b (off + k * 16) rfl (pgVals z).toArray _ HC0.out Tryd.underlying77 rfl (Tryd.infoG z) ?_) | (refine wpList_store_row rfl 77 _ _ rfl wr.heap.size (pgVals z).toArray rfl rfl 77 _ (Blk.new wr _ _) (Tryd.infoG z) rfl (pgArr_one z) ?_))
      obtain ⟨X, HX⟩ : ∃ X, Hid (X = (wr.alloc (.cells #[.int .i64 0, .int .i64 0, .int .i64 0, .int .i64 0, .int .i64 0, .int .i64 0, .int .i64 0, .int .i64 0, .int .i64 0, .int .i64 0, .slice none 0 0, .bool false, .bool false, .bool false, .bool false, .bool false] 77)).setRow wr.heap.size (pgVals z).toArray) := ⟨_, Lib.hid rfl⟩
      obtain ⟨qx, HQX⟩ : ∃ x, Hid (x = wr.heap.size) := ⟨_, Lib.hid rfl⟩
      have HBX := Lib.hid (show SB27 W X by rw [HX.out]; exact below_setRow (Below.alloc HBR.out (Below.size HBR.out) _) (Below.size HBR.out) (Below.size (Below.alloc HBR.out (Below.size HBR.out) _)) _)
      have HKX := Lib.hid (show Blk X qx 77 (pgVals z).toArray by rw [HX.out, HQX.out]; exact (Blk.new wr _ _).setRow _)
      rw [← HX.out, ← HQX.out]
      have HTH := Lib.hid (thread27_any (HM.out X HBX.out) (HMV.out X HBX.out) ((k : Int) + 1))
      unfold ThreadOut at HTH
      rw [getM_in HKM.out] at HTH
      simp only [HGO.out] at HTH
      clear s2
      go_wp2_with fail
      refine HTH.out.mono ?_
      rintro e V3 ⟨hb3, B3, d3, rfl, ht3⟩
      have HB3 := Lib.hid (show SB27 W V3 from Below.trans HBX.out (hb3.mono (Below.size HBX.out)))
      have HB3X := Lib.hid hb3
      have HT3 := Lib.hid ht3
      have HSZ := Lib.hid (show (Tryd.prog.info? 56).map (·.size) = some (thArr z.x.th B3 d3).size by rw [thArr_size B3 d3 ht3.regs]; exact Tryd.infoTh)
      have HS12 := Lib.hid (show (#[.int .i64 0, .int .i64 0, .int .i64 0, .int .i64 0, .int .i64 0, .int .i64 0, .int .i64 0, .int .i64 0, .int .i64 0, .int .i64 0, .slice none 0 0, .bool false] : Array Value).size = (thArr z.x.th B3 d3).size by rw [thArr_size B3 d3 ht3.regs]; rfl)
      clear hb3 ht3
      go_upto_region 8 with (refine wpList_store_row rfl 56 _ _ rfl V3.heap.size (thArr z.x.th B3 d3) rfl rfl 56 _ (Blk.new V3 _ _) HSZ.out HS12.out (thArr_one _ _ _) ?_)
      obtain ⟨Y, HY⟩ : ∃ X, Hid (X = (V3.alloc (.cells #[.int .i64 0, .int .i64 0, .int .i64 0, .int .i64 0, .int .i64 0, .int .i64 0, .int .i64 0, .int .i64 0, .int .i64 0, .int .i64 0, .slice none 0 0, .bool false] 56)).setRow V3.heap.size (thArr z.x.th B3 d3)) := ⟨_, Lib.hid rfl⟩
      obtain ⟨qy, HQY⟩ : ∃ x, Hid (x = V3.heap.size) := ⟨_, Lib.hid rfl⟩
      have HBY := Lib.hid (show SB27 W Y by rw [HY.out]; exact below_setRow (Below.alloc HB3.out (Below.size HB3.out) _) (Below.size HB3.out) (Below.size (Below.alloc HB3.out (Below.size HB3.out) _)) _)
      have HB3Y := Lib.hid (show Below V3.heap.size V3 Y by rw [HY.out]; exact below_setRow ((Below.refl _ V3).alloc (Nat.le_refl _) _) (Nat.le_refl _) (by rw [World.size_alloc]; omega) _)
      have HKY := Lib.hid (show Blk Y qy 56 (thArr z.x.th B3 d3) by rw [HY.out, HQY.out]; exact (Blk.new V3 _ _).setRow _)
      have HKXY := Lib.hid (show Blk Y qx 77 (pgVals z).toArray from (HKX.out.below HB3X.out HKX.out.lt).below HB3Y.out (HKX.out.below HB3X.out HKX.out.lt).lt)
      have HT3Y := Lib.hid (HT3.out.step HB3Y.out)
      rw [← HY.out, ← HQY.out]
      have TZ := Lib.hid (HRW.out.th z HZM.out)
      have HBL := Lib.hid (fun (V : World) (hV : Below Y.heap.size Y V) => (Below.trans HBY.out (hV.mono (Below.size HBY.out)) : Below W.heap.size W V))
      have LQ : ∀ V, Below Y.heap.size Y V → (loadVar 47 ⟨q, 0, none⟩).run Tryd.prog V = .ok (.agg (MV F fs.length fc2 M.gs (some ⟨b, off, none⟩) n c2 M.holder M.owner)) V := fun V hV => run_loadVar_cells V q 0 _ _ _ (fun j v hv => by rw [Nat.zero_add]; exact (Blk.cell (H1.out.below (HBL.out V hV) H1.out.lt) j).trans hv) Tryd.underlying47 rfl (mv_info _ _ _ _ _ _ _ _ _)
      have LY : ∀ V, Below Y.heap.size Y V → (loadVar 56 ⟨qy, 0, none⟩).run Tryd.prog V = .ok (.agg (thArr z.x.th B3 d3)) V := fun V hV => run_loadVar_cells V qy 0 _ _ _ (fun j v hv => by rw [Nat.zero_add]; exact (Blk.cell (HKY.out.below hV HKY.out.lt) j).trans hv) Tryd.underlying56 rfl HSZ.out
      have LX : ∀ V, Below Y.heap.size Y V → (loadVar 56 ⟨qx, 0, none⟩).run Tryd.prog V = .ok (.agg (thArr z.x.th z.B z.d)) V := fun V hV => run_loadVar_cells V qx 0 _ _ _ (fun j v hv => by
        rw [Nat.zero_add]
        refine (Blk.cell (HKXY.out.below hV HKXY.out.lt) j).trans ?_
        have hj : j < 12 := by
          rw [← thArr_size z.B z.d TZ.out.regs]
          exact (Array.getElem?_eq_some_iff.1 hv).1
        rw [List.getElem?_toArray, pg_th z TZ.out.regs j hj]
        exact hv) Tryd.underlying56 rfl (by rw [thArr_size z.B z.d TZ.out.regs]; exact Tryd.infoTh)
      obtain ⟨tb, HTB⟩ : ∃ x, Hid (x = z.x.blk) := ⟨_, Lib.hid rfl⟩
      obtain ⟨ts, HTS⟩ : ∃ x, Hid (x = z.x.sus) := ⟨_, Lib.hid rfl⟩
      obtain ⟨tg, HTG⟩ : ∃ x, Hid (x = z.x.beg) := ⟨_, Lib.hid rfl⟩
      obtain ⟨cv, HCV⟩ : ∃ x, Hid (x = canP fs M ((k : Int) + 1)) := ⟨_, Lib.hid rfl⟩
      have X1 : ∀ V, Below Y.heap.size Y V → V.cell? ⟨qx, 12, none⟩ = some (.bool tb) := fun V hV => by rw [HTB.out]; exact (Blk.cell (HKXY.out.below hV HKXY.out.lt) 12).trans rfl
      have X3 : ∀ V, Below Y.heap.size Y V → V.cell? ⟨qx, 14, none⟩ = some (.bool ts) := fun V hV => by rw [HTS.out]; exact (Blk.cell (HKXY.out.below hV HKXY.out.lt) 14).trans rfl
      have X4 : ∀ V, Below Y.heap.size Y V → V.cell? ⟨qx, 15, none⟩ = some (.bool tg) := fun V hV => by rw [HTG.out]; exact (Blk.cell (HKXY.out.below hV HKXY.out.lt) 15).trans rfl
      have CS := Lib.hid (fun (V : World) (hV : Below Y.heap.size Y V) => rSame_any z.x.th z.x.th B3 z.B d3 z.d V (HT3Y.out.step hV) ((HRV.out V (HBL.out V hV)).th z HZM.out))
      rw [sameT_refl27] at CS
      have CB := Lib.hid (fun (V : World) (hV : Below Y.heap.size Y V) => blocked27_any (HM.out V (HBL.out V hV)) ((k : Int) + 1))
      have CU := Lib.hid (fun (V : World) (hV : Below Y.heap.size Y V) => suspended27_any (HM.out V (HBL.out V hV)) ((k : Int) + 1))
      have CG := Lib.hid (fun (V : World) (hV : Below Y.heap.size Y V) => begun27_any (HM.out V (HBL.out V hV)) ((k : Int) + 1))
      unfold flagP at CB CU CG
      rw [getM_in HKM.out] at CB CU CG
      simp only [HGO.out] at CB CU CG
      rw [← HTB.out] at CB
      rw [← HTS.out] at CU
      rw [← HTG.out] at CG
      have CC := Lib.hid (fun (V : World) (hV : Below Y.heap.size Y V) => can27_any (HM.out V (HBL.out V hV)) (HMV.out V (HBL.out V hV)) ((k : Int) + 1))
      have CR := Lib.hid (fun (V : World) (hV : Below Y.heap.size Y V) => rcan_any27 (c := c2) (fc := fc2) (HRV.out V (HBL.out V hV)) HN.out HGS.out ((k : Int) + 1))
      rw [← HCV.out] at CC CR
      refine region_below Y Y.heap.size (by kernel_rfl) (by kernel_rfl) (Below.refl _ _) ?_
      (repeat (first | (refine quiet_load_at (by rfl) 47 _ rfl ⟨q, 0, none⟩ rfl (MV F fs.length fc2 M.gs (some ⟨b, off, none⟩) n c2 M.holder M.owner) LQ ?_; simp only [Act.put, List.setIfInBounds_toArray, List.set_cons_zero, List.set_cons_succ]) | (refine quiet_load_at (by rfl) 56 _ rfl ⟨qy, 0, none⟩ rfl (thArr z.x.th B3 d3) LY ?_; simp only [Act.put, List.setIfInBounds_toArray, List.set_cons_zero, List.set_cons_succ]) | (refine quiet_load_at (by rfl) 56 _ rfl ⟨qx, 0, none⟩ rfl (thArr z.x.th z.B z.d) LX ?_; simp only [Act.put, List.setIfInBounds_toArray, List.set_cons_zero, List.set_cons_succ]) | go_big_quiet_skip | (go_big_quiet_want; first | (go_big_quiet_op; first | go_big_quiet_on | ((first | with_reducible refine ⟨_, fun _ _ => rfl, ?_⟩ | with_reducible refine ⟨_, fun w' hw' => calm_of hw' (Nat.le_refl _) (CS.out w' hw'), ?_⟩ | with_reducible refine ⟨_, fun w' hw' => calm_of_same hw' (CB.out w' hw'), ?_⟩ | with_reducible refine ⟨_, fun w' hw' => calm_of_same hw' (CU.out w' hw'), ?_⟩ | with_reducible refine ⟨_, fun w' hw' => calm_of_same hw' (CG.out w' hw'), ?_⟩ | with_reducible refine ⟨_, fun w' hw' => calm_of hw' (Nat.le_refl _) (CC.out w' hw'), ?_⟩ | with_reducible refine ⟨_, fun w' hw' => calm_of hw' (Nat.le_refl _) (CR.out w' hw'), ?_⟩); go_big_quiet_on)) | (simp (contextual := true) [go_sem, X1, X3, X4]; with_reducible refine ⟨_, fun _ _ => rfl, ?_⟩; go_big_quiet_on))))
      refine wpQuiet_nil ?_
      intro W8 hw8
      have HB8 := Lib.hid (show SB27 W W8 from HBL.out W8 hw8)
      clear hw8
      go_wp2_with fail
      go_roundw
      case rel => exact ⟨k + 1, by omega, by go_num, HB8⟩
      case measure => simp [intOf]; omega
    · have hkn : k = n := by omega
      subst hkn
      have HTH := Lib.hid (thread27_any (HM.out wr HBR.out) (HMV.out wr HBR.out) ((k : Int) + 1))
      unfold ThreadOut at HTH
      rw [getM_out HLN.out] at HTH
      simp only at HTH
      go_upto_region 10 with (fail)
      go_wp2_with fail
      refine HTH.out.mono ?_
      rintro e V3 ⟨hb3, rfl⟩
      have HB3 := Lib.hid (show SB27 W V3 from Below.trans HBR.out (hb3.mono (Below.size HBR.out)))
      clear hb3
      go_upto_region 11 with (refine wpList_store_row rfl 56 _ _ rfl V3.heap.size (thArr zeroTh none 0) rfl rfl 56 _ (Blk.new V3 _ _) Tryd.infoTh rfl (thArr_one _ _ _) ?_)
      obtain ⟨Y, HY⟩ : ∃ X, Hid (X = (V3.alloc (.cells #[.int .i64 0, .int .i64 0, .int .i64 0, .int .i64 0, .int .i64 0, .int .i64 0, .int .i64 0, .int .i64 0, .int .i64 0, .int .i64 0, .slice none 0 0, .bool false] 56)).setRow V3.heap.size (thArr zeroTh none 0)) := ⟨_, Lib.hid rfl⟩
      have HBY := Lib.hid (show SB27 W Y by rw [HY.out]; exact below_setRow (Below.alloc HB3.out (Below.size HB3.out) _) (Below.size HB3.out) (Below.size (Below.alloc HB3.out (Below.size HB3.out) _)) _)
      rw [← HY.out]
      have s2 := S2 Y HBY.out
      have C0 := Lib.hid (can27_any (HM.out Y HBY.out) (HMV.out Y HBY.out) 0)
      rw [canP_none (getM_zero M)] at C0
      go_wp2_with fail
      refine C0.out.mono ?_
      rintro e V5 ⟨rfl, hb5⟩
      have HB5 := Lib.hid (show SB27 W V5 from Below.trans HBY.out (hb5.mono (Below.size HBY.out)))
      clear hb5 s2
      have s5 := S2 V5 HB5.out
      have C1 := Lib.hid (can27_any (HM.out V5 HB5.out) (HMV.out V5 HB5.out) ((k : Int) + 1))
      rw [canP_none (getM_out HLN.out)] at C1
      go_wp2_with fail
      refine C1.out.mono ?_
      rintro e V6 ⟨rfl, hb6⟩
      have HB6 := Lib.hid (show SB27 W V6 from Below.trans HB5.out (hb6.mono (Below.size HB5.out)))
      clear hb6
      go_wp2_with fail
      go_ret
      exact ⟨rfl, HBW.out.trans (Below.mono HB6.out HBW.out.size)⟩
end Go.Proofs.YtkfpnppppmccdaaDoor

/-
  Chapter 8: the walk into the depth of flow.Gap. Conditions: its boxes lie in memory.
-/
import Derived.Test.YtfgaonkoaolffaaDoorEnv8
import Derived.Test.YtfgaonkoaolffaaDoorLight9
namespace Go.Proofs.YtfgaonkoaolffaaDoor
open Go.RowKit
def GapArgs (pc fb mb wb lb : Nat) : Array Value := #[.int .i64 pc, .pointer (some ⟨fb, 0, none⟩), .pointer (some ⟨mb, 0, none⟩), .pointer (some ⟨wb, 0, none⟩), .pointer (some ⟨lb, 0, none⟩)]
/-- What the walk answers. -/
def WalkOut (w : World) (m0 fb mb wb lb mk lk : Nat) (C S : Option Addr) (n c sm d : Nat) (f : Fn) (pc : Nat) (ms ls : List Nat) (e : Ending) (w' : World) : Prop :=
  (∃ ms' ls', e = .returned (.bool true) ∧ GE w' m0 fb mb wb lb mk lk C S n c sm d f ms' ls' ∧ Dfs n (nxN f.code) (openB f.safe) ms' ls' ∧ Ext ms ls ms' ls' ∧ (openB f.safe pc = true → ms'.getD pc 0 = 2) ∧ Mv [mk, lk] w w') ∨
  (e = .returned (.bool false) ∧ (∃ x, x < n ∧ Pth (nxN f.code) (openB f.safe) x x) ∧ Mv [mk, lk] w w')
theorem Rd.bound {n x j : Nat} {nx : Nat → List Nat} {op : Nat → Bool} {m l mj lj : List Nat} (h : Rd n nx op m l x j mj lj) : lj.getD x 0 ≤ n := by
  rw [h.run]
  refine (foldmax_le (f := fun k => lj.getD k 0)).2 ⟨Nat.zero_le _, fun k hk => ?_⟩
  cases hok : op k with
  | true =>
    have h1 := (h.d.done k (h.seen k hk hok)).2.2.2
    have h2 := List.count_le_length (a := 2) (l := mj)
    rw [h.d.hm] at h2
    omega
  | false => rw [h.d.zero k (h.d.shut k hok)]; exact Nat.zero_le _
theorem drew_set (w : World) (p : Addr) (v : Value) : (w.setCell p v).drew = w.drew.setCell p v := rfl
theorem own_few {w : World} {base size n c : Nat} {e : TypeId} {A : Option Addr} {xs : List Value} (h : Own w base e size A n c xs) : n ≤ maxLen := by
  rcases h.2 with ⟨-, hn⟩ | ⟨g, cap, cur, hv, hb, hg, hnc, hm, _⟩
  · omega
  · omega
section
variable {w : World} {m0 fb mb wb lb mk lk : Nat} {C S : Option Addr} {n c sm d : Nat} {f : Fn} {ms ls : List Nat}
set_option maxRecDepth 10000 in
set_option maxHeartbeats 4000000 in
theorem walk_step (pc : Nat) (hn : n ≤ 70) (hnc : n = f.code.length) (hE : GE w m0 fb mb wb lb mk lk C S n c sm d f ms ls) (hD : Dfs n (nxN f.code) (openB f.safe) ms ls) (hpc : pc < n) (hpa : openB f.safe pc = true → ∀ x, ms.getD x 0 = 1 → Pth (nxN f.code) (openB f.safe) x pc)
    (IH : ∀ (V : World) (ms' ls' : List Nat) (k : Nat), ms'.count 0 < ms.count 0 → GE V m0 fb mb wb lb mk lk C S n c sm d f ms' ls' → Dfs n (nxN f.code) (openB f.safe) ms' ls' → k < n → (openB f.safe k = true → ∀ x, ms'.getD x 0 = 1 → Pth (nxN f.code) (openB f.safe) x k) →
      Calls Tryd.prog 34 (GapArgs k fb mb wb lb) V (WalkOut V m0 fb mb wb lb mk lk C S n c sm d f k ms' ls')) :
    Calls Tryd.prog 34 (GapArgs pc fb mb wb lb) w (WalkOut w m0 fb mb wb lb mk lk C S n c sm d f pc ms ls) := by
  have HE := Lib.hid hE
  have HD := Lib.hid hD
  have HPA := Lib.hid hpa
  have HIH := Lib.hid IH
  have HPC := Lib.hid hpc
  have HNC := Lib.hid hnc
  have HO := Lib.hid (open_any (hE.fn.more hE.top) pc)
  obtain ⟨o, HOE⟩ : ∃ o, Hid (o = openB f.safe pc) := ⟨_, Lib.hid rfl⟩
  rw [← HOE.out] at HO
  have f0 : w.cell? ⟨fb, 0, none⟩ = some (.slice C n c) := (hE.fbx.cell 0).trans rfl
  have f1 : w.cell? ⟨fb, 1, none⟩ = some (.slice S sm d) := (hE.fbx.cell 1).trans rfl
  unfold GapArgs
  clear hE hD hpa IH hnc
  cases o with
  | false =>
    go_enter Tryd.func34, Tryd.ntmps34
    go_wp2_with (go_at_call 35; refine HO.out.mono ?_; rintro e V1 ⟨rfl, hb1⟩; have HB1 := Lib.hid hb1; clear hb1)
    go_ret
    exact .inl ⟨ms, ls, rfl, HE.out.step HB1.out, HD.out, .refl _ _, fun h => (by rw [← HOE.out] at h; cases h), .of_below HB1.out (Nat.le_refl _)⟩
  | true =>
    have HL := Lib.hid HD.out.hm
    have HLL := Lib.hid HD.out.hl
    have MB := Lib.hid (fun (V : World) (h : SB8 w V) => (HE.out.step h))
    by_cases h2 : ms.getD pc 0 = 2
    · go_enter Tryd.func34, Tryd.ntmps34
      go_wp2_with (go_at_call 35; refine HO.out.mono ?_; rintro e V1 ⟨rfl, hb1⟩; have HB1 := Lib.hid hb1; have m1 : V1.cell? ⟨mb, 0, none⟩ = some (.slice (some ⟨mk, 0, none⟩) n n) := ((MB.out V1 hb1).mbx.cell 0).trans rfl; have m2 : V1.cell? ⟨mk, pc, none⟩ = some (.int .u8 2) := by rw [(MB.out V1 hb1).mr.cell, u8s_at _ _ (by rw [HL.out]; exact HPC.out), h2]; rfl)
      go_ret
      exact .inl ⟨ms, ls, rfl, HE.out.step HB1.out, HD.out, .refl _ _, fun _ => h2, .of_below HB1.out (Nat.le_refl _)⟩
    · by_cases h1 : ms.getD pc 0 = 1
      · go_enter Tryd.func34, Tryd.ntmps34
        go_wp2_with (go_at_call 35; refine HO.out.mono ?_; rintro e V1 ⟨rfl, hb1⟩; have HB1 := Lib.hid hb1; have m1 : V1.cell? ⟨mb, 0, none⟩ = some (.slice (some ⟨mk, 0, none⟩) n n) := ((MB.out V1 hb1).mbx.cell 0).trans rfl; have m2 : V1.cell? ⟨mk, pc, none⟩ = some (.int .u8 1) := by rw [(MB.out V1 hb1).mr.cell, u8s_at _ _ (by rw [HL.out]; exact HPC.out), h1]; rfl)
        go_ret
        exact .inr ⟨rfl, ⟨pc, HPC.out, HPA.out HOE.out.symm pc h1⟩, .of_below HB1.out (Nat.le_refl _)⟩
      · have h0 : ms.getD pc 0 = 0 := by
          have := HD.out.le pc
          omega
        go_enter Tryd.func34, Tryd.ntmps34
        have HR0 := Lib.hid (Rd.start HD.out HPC.out HOE.out.symm h0)
        go_upto_region 6 with (go_at_call 35; refine HO.out.mono ?_; rintro e V1 ⟨rfl, hb1⟩; have HB1 := Lib.hid hb1; have m1 : V1.cell? ⟨mb, 0, none⟩ = some (.slice (some ⟨mk, 0, none⟩) n n) := ((MB.out V1 hb1).mbx.cell 0).trans rfl; have m2 : V1.cell? ⟨mk, pc, none⟩ = some (.int .u8 0) := (by rw [(MB.out V1 hb1).mr.cell, u8s_at _ _ (by rw [HL.out]; exact HPC.out), h0]; rfl); have fz : V1.frozen? ⟨mk, pc, none⟩ = false := (MB.out V1 hb1).mr.frozen pc; clear hb1)
        obtain ⟨V2, HV2⟩ : ∃ V, Hid (V = V1.setCell ⟨mk, pc, none⟩ (.int .u8 1)) := ⟨_, Lib.hid rfl⟩
        rw [← HV2.out]
        have HE2 := Lib.hid (show GE V2 m0 fb mb wb lb mk lk C S n c sm d f (ms.set pc 1) ls by rw [HV2.out]; exact (MB.out V1 HB1.out).setM pc 1)
        have HM2 := Lib.hid (show Mv [mk, lk] w V2 by rw [HV2.out]; exact (Mv.of_below HB1.out (Nat.le_refl _)).set _ _ (by simp))
        have HNX := Lib.hid (next_any HE2.out.tab (HE2.out.fn.more HE2.out.top) hn (pc : Int))
        rw [nxZ_nat] at HNX
        obtain ⟨nl, HNL⟩ : ∃ l, Hid (l = nxN f.code pc) := ⟨_, Lib.hid rfl⟩
        rw [← HNL.out] at HNX
        have g0 : V2.cell? ⟨fb, 0, none⟩ = some (.slice C n c) := (HE2.out.fbx.cell 0).trans rfl
        have g1 : V2.cell? ⟨fb, 1, none⟩ = some (.slice S sm d) := (HE2.out.fbx.cell 1).trans rfl
        clear m1 m2 fz f0 f1 h0 h1 h2
        go_wp2_with (go_at_call 22; refine HNX.out.mono ?_; rintro e V3 ⟨A, cl, rfl, ho3, hb3⟩; have HO3 := Lib.hid ho3; have HB3 := Lib.hid hb3; clear ho3 hb3)
        obtain ⟨len, HLN⟩ : ∃ l, Hid (l = nl.length) := ⟨_, Lib.hid rfl⟩
        rw [← HLN.out] at HO3 ⊢
        have HSZ := Lib.hid HB3.out.size
        have HVB := Lib.hid (show V2.heap.size ≤ V3.heap.size from HB3.out.size)
        have HMK := Lib.hid HE2.out.mr.lt
        have HLK := Lib.hid HE2.out.lr.lt
        have HM3 := Lib.hid (HM2.out.trans (.of_below HB3.out (Nat.le_refl _)))
        have HE3 := Lib.hid (HE2.out.step HB3.out)
        clear g0 g1 HNX HE HD HO MB HE2 HM2
        go_loopw [34] (fun vi wr => ∃ (j : Nat) (mj lj : List Nat), j ≤ len ∧ vi = .int .i64 j ∧ Hid (GE wr m0 fb mb wb lb mk lk C S n c sm d f mj lj) ∧ Hid (Rd n (nxN f.code) (openB f.safe) ms ls pc j mj lj) ∧ Hid (Own wr V2.heap.size 3 1 A len cl (ints (upI nl))) ∧ Hid (Mv [mk, lk] w wr)) (fun vi _ => len - (intOf vi).toNat)
        case atStart => exact ⟨0, _, _, by omega, rfl, HE3, HR0, HO3, HM3⟩
        case round =>
          rcases hrel with ⟨j, mj, lj, hj, rfl, K1, K2, K3, K4⟩
          by_cases hlt : j < len
          · have HJW := Lib.hid (show wrap64 ((j : Int) + 1) = ((j + 1 : Nat) : Int) by have h1 := own_few K3.out; unfold maxLen at h1; unfold wrap64; omega)
            have hj2 : j < nl.length := by rw [← HLN.out]; exact hlt
            obtain ⟨k, HK⟩ : ∃ k, Hid (k = nl[j]) := ⟨_, Lib.hid rfl⟩
            have HKM := Lib.hid (show (nxN f.code pc)[j]? = some k by rw [← HNL.out, HK.out]; exact List.getElem?_eq_getElem hj2)
            have HKN := Lib.hid (show k < n by rw [HNC.out]; exact nx_lt (List.mem_of_getElem? HKM.out))
            obtain ⟨b, off, e0, hb, hc⟩ := K3.out.row.at_ (k := j) (by simpa [ints, upI] using hj2)
            subst e0
            have c0 : wr.cell? ⟨b, off + j, none⟩ = some (.int .i64 k) := hc _ _ (by simp [ints, upI, hj2, HK.out])
            have w0 : wr.cell? ⟨wb, 0, none⟩ = some (.func (.func 34) #[] #[.pointer (some ⟨fb, 0, none⟩), .pointer (some ⟨mb, 0, none⟩), .pointer (some ⟨wb, 0, none⟩), .pointer (some ⟨lb, 0, none⟩)]) := (K1.out.wbx.cell 0).trans rfl
            have HP := Lib.hid (HIH.out wr mj lj k K2.out.cnt K1.out K2.out.d HKN.out (fun hok => K2.out.path (HPA.out HOE.out.symm) (List.mem_of_getElem? HKM.out) hok))
            clear hc hb HK hj2
            have hkn := HKN.out
            go_wp2_with fail
            refine HP.out.mono ?_
            rintro e V4 (⟨m4, l4, rfl, h1, h2, h3, h4, h5⟩ | ⟨rfl, hx, hm⟩)
            · have HV := Lib.hid h1
              have HD4 := Lib.hid h2
              have HR4 := Lib.hid (K2.out.next HKM.out h2 h3 h4)
              have HM4 := Lib.hid (K4.out.trans h5)
              have HO4 := Lib.hid (own_mv K3.out h5 (by intro q hq; have h6 := (K3.out.lt q hq).1; have h7 := HMK.out; have h8 := HLK.out; simp; omega))
              have hlp : pc < l4.length := by rw [h2.hl]; exact HPC.out
              have hlk4 : k < l4.length := by rw [h2.hl]; exact hkn
              have L0 : ∀ w', SB8 V4 w' → w'.cell? ⟨lb, 0, none⟩ = some (.slice (some ⟨lk, 0, none⟩) n n) := fun w' h => ((HV.out.step h).lbx.cell 0).trans rfl
              have L1 : ∀ w', SB8 V4 w' → w'.cell? ⟨lk, pc, none⟩ = some (.int .i64 (l4.getD pc 0 : Nat)) := fun w' h => by rw [(HV.out.step h).lr.cell, nis_at _ _ hlp]
              have L2 : ∀ w', SB8 V4 w' → w'.cell? ⟨lk, k, none⟩ = some (.int .i64 (l4.getD k 0 : Nat)) := fun w' h => by rw [(HV.out.step h).lr.cell, nis_at _ _ hlk4]
              have f3 := HV.out.lr.drew.frozen pc
              have c3 : V4.drew.cell? ⟨lk, pc, none⟩ = some (.int .i64 (l4.getD pc 0 : Nat)) := by rw [HV.out.lr.drew.cell, nis_at _ _ hlp]
              have HD := Lib.hid (show SB8 V4 V4.drew from (Below.refl _ V4).drew)
              have HN4 := Lib.hid ((HV.out.step HD.out).setL pc (max (l4.getD pc 0) (l4.getD k 0)))
              have HM5 := Lib.hid (HM4.out.trans ((Mv.of_below HD.out (Nat.le_refl _)).set (⟨lk, pc, none⟩) (.int .i64 ((max (l4.getD pc 0) (l4.getD k 0) : Nat) : Int)) (by simp)))
              have HO5 := Lib.hid (own_mv HO4.out (show Mv [mk, lk] V4 (V4.drew.setCell ⟨lk, pc, none⟩ (.int .i64 ((max (l4.getD pc 0) (l4.getD k 0) : Nat) : Int))) from (Mv.of_below HD.out (Nat.le_refl _)).set _ _ (by simp)) (by intro q hq; have h6 := (HO4.out.lt q hq).1; have h7 := HMK.out; have h8 := HLK.out; simp; omega))
              obtain ⟨a1, HA1⟩ : ∃ a, Hid (a = l4.getD pc 0) := ⟨_, Lib.hid rfl⟩
              obtain ⟨a2, HA2⟩ : ∃ a, Hid (a = l4.getD k 0) := ⟨_, Lib.hid rfl⟩
              rw [← HA1.out] at L1 c3
              rw [← HA2.out] at L2
              rw [← HA1.out, ← HA2.out] at HN4 HM5 HO5 HR4
              clear h1 h2 h3 h4 h5 hlp hlk4 c0 w0 HP
              go_wp2_with fail
              refine region_schE (SB8 V4) [] [0, 1, 2, 3, 4, 5, 6, 7, 8, 9, 10, 11] 12 (by kernel_rfl) (by kernel_rfl) (by kernel_rfl) (fun _ _ d _ _ h => by cases d <;> exact h) HD.out ?_
              (try simp only [Act.put, List.setIfInBounds_toArray, List.set_cons_zero, List.set_cons_succ]); refine schE_last ?_; simp only [pickOps, List.getElem?_toArray, List.getElem?_cons_zero, List.getElem?_cons_succ]; (repeat (first | go_big_quiet_skip | (go_big_quiet_want; first | (go_big_quiet_op; first | go_big_quiet_on | ((first | with_reducible refine ⟨_, fun _ _ => rfl, ?_⟩); go_big_quiet_on)) | (simp (contextual := true) [go_sem, L0, L1, L2]; with_reducible refine ⟨_, fun _ _ => rfl, ?_⟩; go_big_quiet_on)))); refine wpQuiet_nil ?_
              clear L0 L1 L2
              go_wp2_with fail
              have e : (max (a1 : Int) (a2 : Int)) = ((max a1 a2 : Nat) : Int) := by omega
              rw [e, HJW.out, drew_set]
              exact ⟨⟨j + 1, _, _, by omega, rfl, HN4, HR4, HO5, HM5⟩, by simp only [intOf, Int.toNat_natCast]; omega⟩
            · have HX := Lib.hid hx
              have HMX := Lib.hid (K4.out.trans hm)
              clear hx hm
              go_wp2_with fail
              go_ret
              exact .inr ⟨rfl, HX.out, HMX.out⟩
          · obtain rfl : j = len := by omega
            have HFIN := Lib.hid (K2.out.finish (by rw [← HNL.out, HLN.out]; exact Nat.le_refl _))
            have hle : lj.getD pc 0 ≤ 70 := Nat.le_trans K2.out.bound hn
            have hlp : pc < lj.length := by rw [K2.out.d.hl]; exact HPC.out
            have hmp : pc < mj.length := by rw [K2.out.d.hm]; exact HPC.out
            have b0 : wr.cell? ⟨lb, 0, none⟩ = some (.slice (some ⟨lk, 0, none⟩) n n) := (K1.out.lbx.cell 0).trans rfl
            have b1 : wr.cell? ⟨lk, pc, none⟩ = some (.int .i64 (lj.getD pc 0 : Nat)) := by rw [K1.out.lr.cell, nis_at _ _ hlp]
            have f1 := K1.out.lr.frozen pc
            have HG1 := Lib.hid (K1.out.setL pc (lj.getD pc 0 + 1))
            obtain ⟨a1, HA1⟩ : ∃ a, Hid (a = lj.getD pc 0) := ⟨_, Lib.hid rfl⟩
            rw [← HA1.out] at b1 hle HG1
            have hv1 : ((a1 + 1 : Nat) : Int) = (a1 : Int) + 1 := rfl
            rw [hv1] at HG1
            clear hv1
            have HG2 := Lib.hid (HG1.out.setM pc 2)
            have b2 : (wr.setCell ⟨lk, pc, none⟩ (.int .i64 ((a1 : Int) + 1))).cell? ⟨mb, 0, none⟩ = some (.slice (some ⟨mk, 0, none⟩) n n) := (HG1.out.mbx.cell 0).trans rfl
            have b3 : (wr.setCell ⟨lk, pc, none⟩ (.int .i64 ((a1 : Int) + 1))).cell? ⟨mk, pc, none⟩ = some (.int .u8 (mj.getD pc 0 : Nat)) := by rw [HG1.out.mr.cell, u8s_at _ _ hmp]
            have f2 := HG1.out.mr.frozen pc
            clear hlp hmp HG1
            go_wp2_with fail
            go_ret
            obtain ⟨h1, h2, h3⟩ := HFIN.out
            rw [← HA1.out] at h1 h2
            exact .inl ⟨_, _, rfl, HG2.out, h1, h2, fun _ => h3, (K4.out.set _ _ (by simp)).set _ _ (by simp)⟩
theorem walk_any (pc : Nat) (hn : n ≤ 70) (hnc : n = f.code.length) (hE : GE w m0 fb mb wb lb mk lk C S n c sm d f ms ls) (hD : Dfs n (nxN f.code) (openB f.safe) ms ls) (hpc : pc < n) (hpa : openB f.safe pc = true → ∀ x, ms.getD x 0 = 1 → Pth (nxN f.code) (openB f.safe) x pc) :
    Calls Tryd.prog 34 (GapArgs pc fb mb wb lb) w (WalkOut w m0 fb mb wb lb mk lk C S n c sm d f pc ms ls) := by
  generalize hm : ms.count 0 = r
  induction r using Nat.strongRecOn generalizing w ms ls pc with
  | ind r ih => exact walk_step pc hn hnc hE hD hpc hpa fun V ms' ls' k hlt h1 h2 h3 h4 => ih _ (by omega) k h1 h2 h3 h4 rfl
end
end Go.Proofs.YtfgaonkoaolffaaDoor

/-
  Chapter 8: the walk into the depth of flow.reached, with the closure of flow.Reach. Conditions: its boxes lie in memory.
-/
import Derived.Test.YtdpacdmaadodiaaDoorEnv8
import Derived.Test.YtdpacdmaadodiaaDoorBoolv
import Derived.Deep.OwnRows
namespace Go.Proofs.YtdpacdmaadodiaaDoor
open Go.RowKit
/-- The closure's own boxes and the marks; P: what the function that tells what comes next looks at. -/
structure RE (P : World → Prop) (w : World) (m0 ob nb wb rk : Nat) (fv : Value) (n : Nat) (vs : List Bool) : Prop where
  obx : Blk w ob 28 #[.slice (some ⟨rk, 0, none⟩) n n]
  nbx : Blk w nb 50 #[fv]
  wbx : Blk w wb 55 #[.func (.func 39) #[] #[.pointer (some ⟨ob, 0, none⟩), .pointer (some ⟨nb, 0, none⟩), .pointer (some ⟨wb, 0, none⟩)]]
  rr : Blk w rk 4 (boolVals vs).toArray
  p : P w
  len : vs.length = n
  lrk : m0 ≤ rk
  top : m0 ≤ w.heap.size
/-- What is kept where nothing but the marks is written. -/
def Kp8 (P : World → Prop) (m0 rk : Nat) : Prop := ∀ w w', P w → m0 ≤ w.heap.size → Mv [rk] w w' → P w'
theorem bool_at8 (l : List Bool) (k : Nat) (h : k < l.length) : (boolVals l).toArray[k]? = some (.bool (l.getD k false)) := by simp [boolVals, h]
theorem bools_set8 (l : List Bool) (k : Nat) (b : Bool) : (boolVals l).toArray.setIfInBounds k (.bool b) = (boolVals (l.set k b)).toArray := by simp [boolVals, List.map_set]
section
variable {P : World → Prop} {w w' : World} {m0 ob nb wb rk n : Nat} {fv : Value} {vs vs' : List Bool}
theorem RE.ne (h : RE P w m0 ob nb wb rk fv n vs) : ob ≠ rk ∧ nb ≠ rk ∧ wb ≠ rk := ⟨blk_ne h.obx h.rr (by decide), blk_ne h.nbx h.rr (by decide), blk_ne h.wbx h.rr (by decide)⟩
theorem RE.mv (h : RE P w m0 ob nb wb rk fv n vs) (hk : Kp8 P m0 rk) (hm : Mv [rk] w w') (hr : Blk w' rk 4 (boolVals vs').toArray) (hl : vs'.length = n) : RE P w' m0 ob nb wb rk fv n vs' := by
  obtain ⟨h1, h2, h3⟩ := h.ne
  exact ⟨hm.blk h.obx (by simpa using h1), hm.blk h.nbx (by simpa using h2), hm.blk h.wbx (by simpa using h3), hr, hk w w' h.p h.top hm, hl, h.lrk, Nat.le_trans h.top hm.size⟩
theorem RE.step (h : RE P w m0 ob nb wb rk fv n vs) (hk : Kp8 P m0 rk) (hb : Below w.heap.size w w') : RE P w' m0 ob nb wb rk fv n vs :=
  h.mv hk (.of_below hb (Nat.le_refl _)) (h.rr.below hb h.rr.lt) h.len
theorem RE.set (h : RE P w m0 ob nb wb rk fv n vs) (hk : Kp8 P m0 rk) (k : Nat) (b : Bool) : RE P (w.setCell ⟨rk, k, none⟩ (.bool b)) m0 ob nb wb rk fv n (vs.set k b) := by
  refine h.mv hk ((Mv.refl _ w).set _ _ (by simp)) ?_ (by rw [List.length_set]; exact h.len)
  rw [← bools_set8]
  exact h.rr.set_ k _
end
def ReaArgs (k ob nb wb : Nat) : Array Value := #[.int .i64 k, .pointer (some ⟨ob, 0, none⟩), .pointer (some ⟨nb, 0, none⟩), .pointer (some ⟨wb, 0, none⟩)]
/-- What the walk leaves. -/
def ReaOut (P : World → Prop) (w : World) (m0 ob nb wb rk : Nat) (fv : Value) (n : Nat) (nx : Nat → List Nat) (k : Nat) (vs : List Bool) (e : Ending) (w' : World) : Prop :=
  e = .returned (.tuple #[]) ∧ ∃ vs', RE P w' m0 ob nb wb rk fv n vs' ∧ Rw n nx k vs vs' ∧ Mv [rk] w w'
theorem own_few8 {w : World} {base size n c : Nat} {e : TypeId} {A : Option Addr} {xs : List Value} (h : Own w base e size A n c xs) : n ≤ maxLen := by
  rcases h.2 with ⟨-, hn⟩ | ⟨g, cap, cur, hv, hb, hg, hnc, hm, _⟩
  · omega
  · omega
theorem Tryd.infoB9 : (Tryd.prog.info? 4).map (fun i => (i.zero, i.size, i.bytes)) = some (some (.bool false), 1, 1) := by kernel_rfl
theorem made_bool9 (n : Nat) : madeCells #[Value.bool false] n = (boolVals (List.replicate n false)).toArray := by
  apply Array.ext
  · rw [size_madeCells]; simp [boolVals]
  · intro i h1 h2
    rw [size_madeCells] at h1
    simp [madeCells, Nat.mod_one, boolVals]
/-- What reached answers: a row of its own. -/
def RchOut (w : World) (n : Nat) (nx : Nat → List Nat) (e : Ending) (w' : World) : Prop :=
  ∃ rk vs, e = .returned (.slice (some ⟨rk, 0, none⟩) n n) ∧ Blk w' rk 4 (boolVals vs).toArray ∧ w.heap.size ≤ rk ∧ IsRc n nx vs ∧ Below w.heap.size w w'
theorem kp_below (w : World) (rk : Nat) (h : w.heap.size ≤ rk) : Kp8 (Below w.heap.size w) w.heap.size rk :=
  fun _ _ hp ht hm => hp.trans (hm.low ht (by intro k hk; simp at hk; omega))
theorem blkF8 (w : World) (t1 t2 t3 t4 : TypeId) (c1 c2 c3 c4 : Array Value) (W : World) (hW : W = (((w.alloc (.cells c1 t1)).alloc (.cells c2 t2)).alloc (.cells c3 t3)).alloc (.cells c4 t4)) :
    Blk W w.heap.size t1 c1 ∧ Blk W (w.heap.size + 1) t2 c2 ∧ Blk W (w.heap.size + 1 + 1) t3 c3 ∧ Blk W (w.heap.size + 1 + 1 + 1) t4 c4 ∧ Below w.heap.size w W := by
  have b1 := Blk.new w t1 c1
  have b2 := Blk.new (w.alloc (.cells c1 t1)) t2 c2
  have b3 := Blk.new ((w.alloc (.cells c1 t1)).alloc (.cells c2 t2)) t3 c3
  have b4 := Blk.new (((w.alloc (.cells c1 t1)).alloc (.cells c2 t2)).alloc (.cells c3 t3)) t4 c4
  simp only [World.size_alloc] at b2 b3 b4
  rw [hW]
  refine ⟨((b1.alloc _).alloc _).alloc _, (b2.alloc _).alloc _, b3.alloc _, b4, ?_⟩
  exact ((((Below.refl _ w).alloc (Nat.le_refl _) _).alloc (by simp) _).alloc (by simp; omega) _).alloc (by simp; omega) _
section
variable {P : World → Prop} {w : World} {m0 ob nb wb rk fb n : Nat} {nx : Nat → List Nat} {vs : List Bool}
abbrev fvReach (fb : Nat) : Value := .func (.func 30) #[] #[.pointer (some ⟨fb, 0, none⟩)]
set_option maxRecDepth 10000 in
set_option maxHeartbeats 4000000 in
theorem reaR_step (k : Nat) (hK : Kp8 P m0 rk) (hX : ∀ x y, y ∈ nx x → y < n) (hC : ∀ V x, P V → x < n → Calls Tryd.prog 30 #[.int .i64 x, .pointer (some ⟨fb, 0, none⟩)] V (RowOut V (nx x)))
    (hE : RE P w m0 ob nb wb rk (fvReach fb) n vs) (hk : k < n)
    (IH : ∀ (V : World) (vs' : List Bool) (y : Nat), vs'.count false < vs.count false → RE P V m0 ob nb wb rk (fvReach fb) n vs' → y < n →
      Calls Tryd.prog 39 (ReaArgs y ob nb wb) V (ReaOut P V m0 ob nb wb rk (fvReach fb) n nx y vs')) :
    Calls Tryd.prog 39 (ReaArgs k ob nb wb) w (ReaOut P w m0 ob nb wb rk (fvReach fb) n nx k vs) := by
  have HE := Lib.hid hE
  have HIH := Lib.hid IH
  have HK := Lib.hid hk
  have HC := Lib.hid hC
  have HX := Lib.hid hX
  have a0 : w.cell? ⟨ob, 0, none⟩ = some (.slice (some ⟨rk, 0, none⟩) n n) := (hE.obx.cell 0).trans rfl
  have a1 : w.cell? ⟨rk, k, none⟩ = some (.bool (vs.getD k false)) := by rw [hE.rr.cell, bool_at8 _ _ (by rw [hE.len]; exact hk)]
  have fz : w.frozen? ⟨rk, k, none⟩ = false := hE.rr.frozen k
  obtain ⟨v, HV⟩ : ∃ v, Hid (v = vs.getD k false) := ⟨_, Lib.hid rfl⟩
  rw [← HV.out] at a1
  have HKP := Lib.hid hK
  unfold ReaArgs
  clear hE IH hC hX hK
  cases v with
  | true =>
    go_enter Tryd.func39, Tryd.ntmps39
    go_wp2_with fail
    refine bodyPost_ret (results_none rfl _ _ _) rfl ?_
    exact ⟨rfl, vs, HE.out, Rw.same HE.out.len HV.out.symm, .refl _ _⟩
  | false =>
    have HR0 := Lib.hid (Rl.start (nx := nx) HE.out.len HK.out HV.out.symm)
    go_enter Tryd.func39, Tryd.ntmps39
    go_upto_region 2 with (fail)
    obtain ⟨V2, HV2⟩ : ∃ V, Hid (V = w.setCell ⟨rk, k, none⟩ (.bool true)) := ⟨_, Lib.hid rfl⟩
    rw [← HV2.out]
    have HE2 := Lib.hid (show RE P V2 m0 ob nb wb rk (fvReach fb) n (vs.set k true) by rw [HV2.out]; exact HE.out.set HKP.out k true)
    have HM2 := Lib.hid (show Mv [rk] w V2 by rw [HV2.out]; exact (Mv.refl _ w).set _ _ (by simp))
    have HP2 := Lib.hid (HC.out V2 k HE2.out.p HK.out)
    have n0 : V2.cell? ⟨nb, 0, none⟩ = some (fvReach fb) := (HE2.out.nbx.cell 0).trans rfl
    obtain ⟨nl, HNL⟩ : ∃ l, Hid (l = nx k) := ⟨_, Lib.hid rfl⟩
    rw [← HNL.out] at HP2
    clear a0 a1 fz
    go_wp2_with fail
    refine HP2.out.mono ?_
    rintro e V3 ⟨A, cl, rfl, ho3, hb3⟩
    have HO3 := Lib.hid ho3
    have HB3 := Lib.hid hb3
    clear ho3 hb3 n0
    obtain ⟨len, HLN⟩ : ∃ l, Hid (l = nl.length) := ⟨_, Lib.hid rfl⟩
    rw [← HLN.out] at HO3 ⊢
    have HRK := Lib.hid HE2.out.rr.lt
    have HM3 := Lib.hid (HM2.out.trans (.of_below HB3.out (Nat.le_refl _)))
    have HE3 := Lib.hid (HE2.out.step HKP.out HB3.out)
    go_wp2_with fail
    go_loopw [18] (fun vi wr => ∃ (j : Nat) (vj : List Bool), j ≤ len ∧ vi = .int .i64 j ∧ Hid (RE P wr m0 ob nb wb rk (fvReach fb) n vj) ∧ Hid (Rl n nx k vs j vj) ∧ Hid (Own wr V2.heap.size 3 1 A len cl (ints (upI nl))) ∧ Hid (Mv [rk] w wr)) (fun vi _ => len - (intOf vi).toNat)
    case atStart => exact ⟨0, _, by omega, rfl, HE3, HR0, HO3, HM3⟩
    case round =>
      rcases hrel with ⟨j, vj, hj, rfl, K1, K2, K3, K4⟩
      by_cases hlt : j < len
      · have HJW := Lib.hid (show wrap64 ((j : Int) + 1) = ((j + 1 : Nat) : Int) by have h1 := own_few8 K3.out; unfold maxLen at h1; unfold wrap64; omega)
        have hj2 : j < nl.length := by rw [← HLN.out]; exact hlt
        obtain ⟨y, HY⟩ : ∃ y, Hid (y = nl[j]) := ⟨_, Lib.hid rfl⟩
        have HYM := Lib.hid (show (nx k)[j]? = some y by rw [← HNL.out, HY.out]; exact List.getElem?_eq_getElem hj2)
        have HYN := Lib.hid (HX.out k y (List.mem_of_getElem? HYM.out))
        obtain ⟨b, off, e0, hb, hc⟩ := K3.out.row.at_ (k := j) (by simpa [ints, upI] using hj2)
        subst e0
        have c0 : wr.cell? ⟨b, off + j, none⟩ = some (.int .i64 y) := hc _ _ (by simp [ints, upI, hj2, HY.out])
        have w0 : wr.cell? ⟨wb, 0, none⟩ = some (.func (.func 39) #[] #[.pointer (some ⟨ob, 0, none⟩), .pointer (some ⟨nb, 0, none⟩), .pointer (some ⟨wb, 0, none⟩)]) := (K1.out.wbx.cell 0).trans rfl
        have HP := Lib.hid (HIH.out wr vj y K2.out.cnt K1.out HYN.out)
        clear hc hb HY hj2
        go_wp2_with fail
        refine HP.out.mono ?_
        rintro e V4 ⟨rfl, v4, h1, h2, h3⟩
        have HR4 := Lib.hid (K2.out.next HYM.out h2)
        have HV4 := Lib.hid h1
        have HM4 := Lib.hid (K4.out.trans h3)
        have HO4 := Lib.hid (own_mv K3.out h3 (by intro q hq; have h6 := (K3.out.lt q hq).1; have h7 := HRK.out; simp; omega))
        clear h1 h2 h3 c0 w0 HP
        go_wp2_with fail
        rw [HJW.out]
        exact ⟨⟨j + 1, _, by omega, rfl, HV4, HR4, HO4, HM4⟩, by simp only [intOf, Int.toNat_natCast]; omega⟩
      · obtain rfl : j = len := by omega
        have HFIN := Lib.hid (K2.out.finish (by rw [← HNL.out, HLN.out]; exact Nat.le_refl _))
        go_wp2_with fail
        go_end0
        exact ⟨rfl, _, K1.out, HFIN.out, K4.out⟩
theorem reaR_any (k : Nat) (hK : Kp8 P m0 rk) (hX : ∀ x y, y ∈ nx x → y < n) (hC : ∀ V x, P V → x < n → Calls Tryd.prog 30 #[.int .i64 x, .pointer (some ⟨fb, 0, none⟩)] V (RowOut V (nx x)))
    (hE : RE P w m0 ob nb wb rk (fvReach fb) n vs) (hk : k < n) :
    Calls Tryd.prog 39 (ReaArgs k ob nb wb) w (ReaOut P w m0 ob nb wb rk (fvReach fb) n nx k vs) := by
  generalize hm : vs.count false = r
  induction r using Nat.strongRecOn generalizing w vs k with
  | ind r ih => exact reaR_step k hK hX hC hE hk fun V vs' y hlt h1 h2 => ih _ (by omega) y h1 h2 rfl
end
set_option maxRecDepth 10000 in
set_option maxHeartbeats 4000000 in
theorem reaR_reached {w : World} {fb n : Nat} {nx : Nat → List Nat} (hn : n ≤ 70) (hX : ∀ x y, y ∈ nx x → y < n)
    (hC : ∀ V x, Below w.heap.size w V → x < n → Calls Tryd.prog 30 #[.int .i64 x, .pointer (some ⟨fb, 0, none⟩)] V (RowOut V (nx x))) :
    Calls Tryd.prog 29 #[.int .i64 n, fvReach fb] w (RchOut w n nx) := by
  have hm : ∀ w, (Instr.makeSlice 28 (.int .i64 (n : Int)) (.int .i64 (n : Int))).run Tryd.prog w = .ok (.slice (some ⟨w.heap.size, 0, none⟩) n n) (w.alloc (.cells (madeCells #[.bool false] n) 4)) :=
    run_make_row' _ _ _ _ Tryd.underlying28 Tryd.infoB9 rfl _ _ n (by omega) (by omega)
  have HC := Lib.hid hC
  have HX := Lib.hid hX
  clear hC hX
  unfold fvReach
  go_enter Tryd.func29, Tryd.ntmps29
  go_upto_region 4 with (fail)
  generalize hW : (((w.alloc _).alloc _).alloc _).alloc _ = W
  obtain ⟨b1, b2, b3, b4, hB⟩ := blkF8 w _ _ _ _ _ _ _ _ W hW.symm
  rw [made_bool9] at b2
  have HRE := Lib.hid (show RE (Below w.heap.size w) W w.heap.size (w.heap.size + 1 + 1) w.heap.size (w.heap.size + 1 + 1 + 1) (w.heap.size + 1) (fvReach fb) n (List.replicate n false) from
    ⟨b3, b1, b4, b2, hB, by simp, by omega, hB.size⟩)
  clear hW b1 b2 b3 b4 hB hm
  obtain ⟨m0, HM0⟩ : ∃ q, Hid (q = w.heap.size) := ⟨_, Lib.hid rfl⟩
  obtain ⟨nb, HNB⟩ : ∃ q, Hid (q = w.heap.size) := ⟨_, Lib.hid rfl⟩
  obtain ⟨rk, HRK⟩ : ∃ q, Hid (q = w.heap.size + 1) := ⟨_, Lib.hid rfl⟩
  obtain ⟨ob, HOB⟩ : ∃ q, Hid (q = w.heap.size + 1 + 1) := ⟨_, Lib.hid rfl⟩
  obtain ⟨wb, HWB⟩ : ∃ q, Hid (q = w.heap.size + 1 + 1 + 1) := ⟨_, Lib.hid rfl⟩
  have HLO := Lib.hid (show w.heap.size ≤ rk by rw [HRK.out]; omega)
  rw [← HWB.out, ← HOB.out, ← HRK.out] at HRE
  rw [← HWB.out, ← HOB.out]
  have hE : RE (Below w.heap.size w) W w.heap.size ob nb wb rk (fvReach fb) n (List.replicate n false) := by rw [HNB.out]; exact HRE.out
  have HWK := Lib.hid (fun (h0 : 0 < n) => reaR_any (nx := nx) 0 (kp_below w rk HLO.out) HX.out HC.out hE h0)
  have HE := Lib.hid hE
  have w0 : W.cell? ⟨wb, 0, none⟩ = some (.func (.func 39) #[] #[.pointer (some ⟨ob, 0, none⟩), .pointer (some ⟨nb, 0, none⟩), .pointer (some ⟨wb, 0, none⟩)]) := (hE.wbx.cell 0).trans rfl
  have o0 : W.cell? ⟨ob, 0, none⟩ = some (.slice (some ⟨rk, 0, none⟩) n n) := (hE.obx.cell 0).trans rfl
  clear HRE hE HNB HRK HOB HWB HM0
  by_cases h0 : 0 < n
  · have HW := Lib.hid (HWK.out h0)
    clear HWK
    go_wp2_with fail
    refine HW.out.mono ?_
    rintro e V4 ⟨rfl, v4, h1, h2, h3⟩
    have o4 : V4.cell? ⟨ob, 0, none⟩ = some (.slice (some ⟨rk, 0, none⟩) n n) := (h1.obx.cell 0).trans rfl
    have HR := Lib.hid h1
    have HT := Lib.hid h2.top
    clear h1 h2 h3 o0
    go_wp2_with fail
    go_ret
    exact ⟨rk, v4, rfl, HR.out.rr, HLO.out, HT.out, HR.out.p⟩
  · obtain rfl : n = 0 := by omega
    clear HWK h0
    go_wp2_with fail
    go_ret
    exact ⟨rk, _, rfl, HE.out.rr, HLO.out, ⟨HE.out.len, fun x hx => absurd hx (Nat.not_lt_zero _)⟩, HE.out.p⟩
end Go.Proofs.YtdpacdmaadodiaaDoor

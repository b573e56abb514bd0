/-
  Chapter 8: flow.Gap. Conditions: the function lies in memory.
-/
import Derived.Test.YtfgaonkoaolffaaDoorGpw8
import Derived.Deep.OwnRows
namespace Go.Proofs.YtfgaonkoaolffaaDoor
open Go.RowKit
theorem Tryd.infoU8g : (Tryd.prog.info? 5).map (fun i => (i.zero, i.size, i.bytes)) = some (some (.int .u8 0), 1, 1) := by kernel_rfl
theorem Tryd.infoIg : (Tryd.prog.info? 3).map (fun i => (i.zero, i.size, i.bytes)) = some (some (.int .i64 0), 1, 8) := by kernel_rfl
def twoOf (g : Nat × Bool) : Value := .tuple #[.int .i64 g.1, .bool g.2]
theorem made_u8 (n : Nat) : madeCells #[Value.int .u8 0] n = u8s (List.replicate n 0) := by
  apply Array.ext
  · rw [size_madeCells]; simp [u8s]
  · intro i h1 h2
    rw [size_madeCells] at h1
    simp [madeCells, Nat.mod_one, u8s]
theorem made_int (n : Nat) : madeCells #[Value.int .i64 0] n = nis (List.replicate n 0) := by
  apply Array.ext
  · rw [size_madeCells]; simp [nis]
  · intro i h1 h2
    rw [size_madeCells] at h1
    simp [madeCells, Nat.mod_one, nis]
theorem blk6 (w : World) (t1 t2 t3 t4 t5 t6 : TypeId) (c1 c2 c3 c4 c5 c6 : Array Value) (W : World) (hW : W = (((((w.alloc (.cells c1 t1)).alloc (.cells c2 t2)).alloc (.cells c3 t3)).alloc (.cells c4 t4)).alloc (.cells c5 t5)).alloc (.cells c6 t6)) :
    Blk W w.heap.size t1 c1 ∧ Blk W (w.heap.size + 1) t2 c2 ∧ Blk W (w.heap.size + 1 + 1) t3 c3 ∧ Blk W (w.heap.size + 1 + 1 + 1) t4 c4 ∧ Blk W (w.heap.size + 1 + 1 + 1 + 1) t5 c5 ∧ Blk W (w.heap.size + 1 + 1 + 1 + 1 + 1) t6 c6 ∧ Below w.heap.size w W := by
  have b1 := Blk.new w t1 c1
  have b2 := Blk.new (w.alloc (.cells c1 t1)) t2 c2
  have b3 := Blk.new ((w.alloc (.cells c1 t1)).alloc (.cells c2 t2)) t3 c3
  have b4 := Blk.new (((w.alloc (.cells c1 t1)).alloc (.cells c2 t2)).alloc (.cells c3 t3)) t4 c4
  have b5 := Blk.new ((((w.alloc (.cells c1 t1)).alloc (.cells c2 t2)).alloc (.cells c3 t3)).alloc (.cells c4 t4)) t5 c5
  have b6 := Blk.new (((((w.alloc (.cells c1 t1)).alloc (.cells c2 t2)).alloc (.cells c3 t3)).alloc (.cells c4 t4)).alloc (.cells c5 t5)) t6 c6
  simp only [World.size_alloc] at b2 b3 b4 b5 b6
  rw [hW]
  refine ⟨((((b1.alloc _).alloc _).alloc _).alloc _).alloc _, (((b2.alloc _).alloc _).alloc _).alloc _, ((b3.alloc _).alloc _).alloc _, (b4.alloc _).alloc _, b5.alloc _, b6, ?_⟩
  exact ((((((Below.refl _ w).alloc (Nat.le_refl _) _).alloc (by simp) _).alloc (by simp; omega) _).alloc (by simp; omega) _).alloc (by simp; omega) _).alloc (by simp; omega) _
/-- What the loop of Gap keeps. -/
structure GL (n : Nat) (nx : Nat → List Nat) (op : Nat → Bool) (k r : Nat) (ms ls : List Nat) : Prop where
  d : Dfs n nx op ms ls
  none : ∀ x, ms.getD x 0 ≠ 1
  did : ∀ x, x < k → op x = true → ms.getD x 0 = 2
  most : r = mostF (fun x => ls.getD x 0) k
theorem GL.start (n : Nat) (nx : Nat → List Nat) (op : Nat → Bool) : GL n nx op 0 0 (List.replicate n 0) (List.replicate n 0) := by
  have h0 : ∀ x, (List.replicate n 0).getD x 0 = 0 := fun x => by
    rw [List.getD_eq_getElem?_getD, List.getElem?_replicate]
    split <;> rfl
  exact ⟨.new n nx op, fun x => by rw [h0]; decide, fun x hx => absurd hx (Nat.not_lt_zero _), rfl⟩
theorem GL.next {n : Nat} {nx : Nat → List Nat} {op : Nat → Bool} {k r : Nat} {ms ls ms' ls' : List Nat} (h : GL n nx op k r ms ls) (hd : Dfs n nx op ms' ls') (he : Ext ms ls ms' ls') (hk : op k = true → ms'.getD k 0 = 2) : GL n nx op (k + 1) (max r (ls'.getD k 0)) ms' ls' := by
  refine ⟨hd, fun x hx => h.none x (he.und x hx), fun x hx ho => ?_, ?_⟩
  · by_cases e : x = k
    · rw [e]; exact hk (by rw [← e]; exact ho)
    · have h1 := h.did x (by omega) ho
      rw [(he.keep x (by rw [h1]; decide)).1, h1]
  · rw [most_succ, h.most]
    congr 1
    refine most_congr fun x hx => ?_
    show ls.getD x 0 = ls'.getD x 0
    cases ho : op x with
    | true => exact ((he.keep x (by rw [h.did x hx ho]; decide)).2).symm
    | false => rw [h.d.zero x (h.d.shut x ho), hd.zero x (hd.shut x ho)]
theorem GL.le {n : Nat} {nx : Nat → List Nat} {op : Nat → Bool} {k r : Nat} {ms ls : List Nat} (h : GL n nx op k r ms ls) (x : Nat) : ls.getD x 0 ≤ n := by
  cases ho : op x with
  | true =>
    by_cases h2 : ms.getD x 0 = 2
    · have h1 := (h.d.done x h2).2.2.2
      have h3 := List.count_le_length (a := 2) (l := ms)
      rw [h.d.hm] at h3
      omega
    · have h1 := h.d.le x
      have h3 := h.none x
      rw [h.d.zero x (by omega)]
      exact Nat.zero_le _
  | false => rw [h.d.zero x (h.d.shut x ho)]; exact Nat.zero_le _
set_option maxRecDepth 10000 in
set_option maxHeartbeats 4000000 in
theorem gap_any {w : World} {C S : Option Addr} {n c m d : Nat} {f : Fn} (hT : Tab w) (hf : FnOk w w.heap.size ⟨C, n, c, S, m, d⟩ f) (hn : n ≤ 70) :
    Calls Tryd.prog 17 #[.agg #[.slice C n c, .slice S m d]] w fun e w' => e = .returned (twoOf (gapG n (nxN f.code) (openB f.safe))) ∧ Below w.heap.size w w' := by
  have hm1 : ∀ w, (Instr.makeSlice 58 (.int .i64 (n : Int)) (.int .i64 (n : Int))).run Tryd.prog w = .ok (.slice (some ⟨w.heap.size, 0, none⟩) n n) (w.alloc (.cells (madeCells #[.int .u8 0] n) 5)) :=
    run_make_row' _ _ _ _ Tryd.underlying58 Tryd.infoU8g rfl _ _ n (by omega) (by omega)
  have hm2 : ∀ w, (Instr.makeSlice 51 (.int .i64 (n : Int)) (.int .i64 (n : Int))).run Tryd.prog w = .ok (.slice (some ⟨w.heap.size, 0, none⟩) n n) (w.alloc (.cells (madeCells #[.int .i64 0] n) 3)) :=
    run_make_row' _ _ _ _ Tryd.underlying51 Tryd.infoIg rfl _ _ n (by omega) (by omega)
  have HT := Lib.hid hT
  have HF := Lib.hid hf
  clear hT hf
  go_enter Tryd.func17, Tryd.ntmps17
  go_upto_region 5 with (fail)
  generalize hW : (((((w.alloc _).alloc _).alloc _).alloc _).alloc _).alloc _ = W
  obtain ⟨b1, b2, b3, b4, b5, b6, hB⟩ := blk6 w _ _ _ _ _ _ _ _ _ _ _ _ W hW.symm
  rw [made_u8] at b2
  rw [made_int] at b4
  have HGE := Lib.hid (show GE W w.heap.size w.heap.size (w.heap.size + 1 + 1) (w.heap.size + 1 + 1 + 1 + 1 + 1) (w.heap.size + 1 + 1 + 1 + 1) (w.heap.size + 1) (w.heap.size + 1 + 1 + 1) C S n c m d f (List.replicate n 0) (List.replicate n 0) from
    ⟨b1, b3, b6, b5, b2, b4, HF.out.below hB, HT.out.step hB, HT.out.pos, by omega, by omega, hB.size⟩)
  have HB := Lib.hid hB
  clear hW b1 b2 b3 b4 b5 b6 hB hm1 hm2
  obtain ⟨fb, HFB⟩ : ∃ q, Hid (q = w.heap.size) := ⟨_, Lib.hid rfl⟩
  obtain ⟨mk, HMK⟩ : ∃ q, Hid (q = w.heap.size + 1) := ⟨_, Lib.hid rfl⟩
  obtain ⟨mb, HMB⟩ : ∃ q, Hid (q = w.heap.size + 1 + 1) := ⟨_, Lib.hid rfl⟩
  obtain ⟨lk, HLK⟩ : ∃ q, Hid (q = w.heap.size + 1 + 1 + 1) := ⟨_, Lib.hid rfl⟩
  obtain ⟨lb, HLB⟩ : ∃ q, Hid (q = w.heap.size + 1 + 1 + 1 + 1) := ⟨_, Lib.hid rfl⟩
  obtain ⟨wb, HWB⟩ : ∃ q, Hid (q = w.heap.size + 1 + 1 + 1 + 1 + 1) := ⟨_, Lib.hid rfl⟩
  rw [← HWB.out, ← HLB.out, ← HLK.out, ← HMB.out, ← HMK.out] at HGE
  rw [← HWB.out, ← HLB.out, ← HLK.out, ← HMB.out, ← HFB.out]
  have HLO := Lib.hid (show w.heap.size ≤ mk ∧ w.heap.size ≤ lk by rw [HMK.out, HLK.out]; omega)
  obtain ⟨m0, HM0⟩ : ∃ q, Hid (q = w.heap.size) := ⟨_, Lib.hid rfl⟩
  rw [← HFB.out, HFB.out, ← HM0.out] at HGE
  have e0 : W.cell? ⟨fb, 0, none⟩ = some (.slice C n c) := by rw [HFB.out, ← HM0.out]; exact (HGE.out.fbx.cell 0).trans rfl
  have HG := Lib.hid (show GE W m0 fb mb wb lb mk lk C S n c m d f (List.replicate n 0) (List.replicate n 0) by rw [HFB.out, ← HM0.out]; exact HGE.out)
  have HNC := Lib.hid (show n = f.code.length from HF.out.1)
  clear HGE HFB HMK HMB HLK HLB HWB HF HT
  go_upto_region 6 with (fail)
  go_loopw [2, 20] (fun v2 vi wr => ∃ (k r : Nat) (ms ls : List Nat), k ≤ n ∧ r ≤ n ∧ vi = .int .i64 k ∧ v2 = .int .i64 r ∧ Hid (GE wr m0 fb mb wb lb mk lk C S n c m d f ms ls) ∧ Hid (GL n (nxN f.code) (openB f.safe) k r ms ls) ∧ Hid (Below w.heap.size w wr)) (fun _ vi _ => n - (intOf vi).toNat)
  case atStart => exact ⟨0, 0, _, _, by omega, by omega, rfl, rfl, HG, Lib.hid (GL.start _ _ _), HB⟩
  case round =>
    obtain ⟨k, r, ms, ls, hk, hr, rfl, rfl, K1, K2, K3⟩ := hrel
    by_cases hlt : k < n
    · have w0 : wr.cell? ⟨wb, 0, none⟩ = some (.func (.func 34) #[] #[.pointer (some ⟨fb, 0, none⟩), .pointer (some ⟨mb, 0, none⟩), .pointer (some ⟨wb, 0, none⟩), .pointer (some ⟨lb, 0, none⟩)]) := (K1.out.wbx.cell 0).trans rfl
      have HP := Lib.hid (walk_any k hn HNC.out K1.out K2.out.d hlt (fun _ x hx => absurd hx (K2.out.none x)))
      clear e0
      go_wp2_with fail
      refine HP.out.mono ?_
      rintro e V4 (⟨m4, l4, rfl, h1, h2, h3, h4, h5⟩ | ⟨rfl, ⟨x, hx1, hx2⟩, hm⟩)
      · have HN4 := Lib.hid (K2.out.next h2 h3 h4)
        have HE4 := Lib.hid h1
        have HB4 := Lib.hid (K3.out.trans (h5.low K3.out.size (by intro q hq; simp at hq; rcases hq with rfl | rfl; exact HLO.out.1; exact HLO.out.2)))
        have hlk4 : k < l4.length := by rw [h2.hl]; exact hlt
        have b0 : V4.cell? ⟨lb, 0, none⟩ = some (.slice (some ⟨lk, 0, none⟩) n n) := (h1.lbx.cell 0).trans rfl
        have b1 : V4.cell? ⟨lk, k, none⟩ = some (.int .i64 (l4.getD k 0 : Nat)) := by rw [h1.lr.cell, nis_at _ _ hlk4]
        have hle := HN4.out.le k
        obtain ⟨a, HA⟩ : ∃ a, Hid (a = l4.getD k 0) := ⟨_, Lib.hid rfl⟩
        rw [← HA.out] at b1 hle HN4
        clear h1 h2 h3 h4 h5 hlk4 w0 HP
        go_wp2_with fail
        exact ⟨⟨k + 1, max r a, _, _, by omega, by omega, rfl, by rw [show (max (r : Int) (a : Int)) = ((max r a : Nat) : Int) by omega], HE4, HN4, HB4⟩, by simp [intOf]; omega⟩
      · have HC := Lib.hid (gap_cyc hx1 hx2)
        have HB4 := Lib.hid (K3.out.trans (hm.low K3.out.size (by intro q hq; simp at hq; rcases hq with rfl | rfl; exact HLO.out.1; exact HLO.out.2)))
        clear hx1 hx2 hm w0
        go_wp2_with fail
        go_ret2
        rw [HC.out]
        exact ⟨rfl, HB4.out⟩
    · obtain rfl : k = n := by omega
      have HC := Lib.hid (K2.out.d.gap K2.out.did)
      rw [← K2.out.most] at HC
      clear e0
      go_wp2_with fail
      go_ret2
      rw [HC.out]
      exact ⟨rfl, K3.out⟩
end Go.Proofs.YtfgaonkoaolffaaDoor

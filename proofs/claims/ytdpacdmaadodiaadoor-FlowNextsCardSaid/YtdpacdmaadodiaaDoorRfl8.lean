/-
  Chapter 8: flow.Reach. Conditions: the table is laid, the function lies in memory.
-/
import Derived.Test.YtdpacdmaadodiaaDoorRea8
namespace Go.Proofs.YtdpacdmaadodiaaDoor
open Go.RowKit
/-- The closure of Reach: what comes next. -/
theorem reach1_any {V : World} {C S : Option Addr} {n c m d fb : Nat} {f : Fn} (hT : Tab V) (hf : FnOk V V.heap.size ⟨C, n, c, S, m, d⟩ f) (hn : n ≤ 70) (hb : Blk V fb 30 #[.slice C n c, .slice S m d]) (k : Nat) :
    Calls Tryd.prog 30 #[.int .i64 k, .pointer (some ⟨fb, 0, none⟩)] V (RowOut V (nxN f.code k)) := by
  have HNX := Lib.hid (next_any hT hf hn (k : Int))
  rw [nxZ_nat] at HNX
  have f0 : V.cell? ⟨fb, 0, none⟩ = some (.slice C n c) := (hb.cell 0).trans rfl
  have f1 : V.cell? ⟨fb, 1, none⟩ = some (.slice S m d) := (hb.cell 1).trans rfl
  clear hT hf hb
  go_enter Tryd.func30, Tryd.ntmps30
  go_wp2_with (go_at_call 16; refine HNX.out.mono ?_; rintro e V1 ⟨A, cl, rfl, ho, hb⟩; have HO := Lib.hid ho; have HB := Lib.hid hb; clear ho hb)
  go_ret
  exact ⟨A, cl, rfl, HO.out, HB.out⟩
set_option maxHeartbeats 1000000 in
theorem reach_any {w : World} {C S : Option Addr} {n c m d : Nat} {f : Fn} (hT : Tab w) (hf : FnOk w w.heap.size ⟨C, n, c, S, m, d⟩ f) (hn : n ≤ 70) :
    Calls Tryd.prog 14 #[.agg #[.slice C n c, .slice S m d]] w (RchOut w n (nxN f.code)) := by
  obtain ⟨W, HW⟩ : ∃ W, Hid (W = w.alloc (.cells #[.slice C n c, .slice S m d] 30)) := ⟨_, Lib.hid rfl⟩
  obtain ⟨fb, HFB⟩ : ∃ q, Hid (q = w.heap.size) := ⟨_, Lib.hid rfl⟩
  have hbw : Below w.heap.size w W := by rw [HW.out]; exact (Below.refl _ w).alloc (Nat.le_refl _) _
  have hp : Blk W fb 30 #[.slice C n c, .slice S m d] := by rw [HW.out, HFB.out]; exact Blk.new w _ _
  have HN : n = f.code.length := hf.1
  have HR := Lib.hid (reaR_reached (w := W) (fb := fb) (n := n) (nx := nxN f.code) hn (fun x y hy => by rw [HN]; exact nx_lt hy) (fun V x hb _ => reach1_any ((hT.step hbw).step hb) (((hf.step hbw).step hb)) hn (hp.below hb hp.lt) x))
  have HB := Lib.hid hbw
  have p0 : W.cell? ⟨fb, 0, none⟩ = some (.slice C n c) := (hp.cell 0).trans rfl
  have hw := HW.out
  have hfb := HFB.out
  clear hT hf hp hbw HN
  unfold fvReach at HR
  go_enter Tryd.func14, Tryd.ntmps14
  go_upto_region 1 with (fail)
  rw [← hw, ← hfb]
  clear hw hfb
  go_wp2_with (go_at_call 29; refine HR.out.mono ?_; rintro e V1 ⟨rk, vs, rfl, h1, h2, h3, h4⟩; have H1 := Lib.hid h1; have H2 := Lib.hid h2; have H3 := Lib.hid h3; have H4 := Lib.hid h4; clear h1 h2 h3 h4)
  go_ret
  exact ⟨rk, vs, rfl, H1.out, Nat.le_trans HB.out.size H2.out, H3.out, HB.out.trans (H4.out.mono HB.out.size)⟩
end Go.Proofs.YtdpacdmaadodiaaDoor

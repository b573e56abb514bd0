/-
  Chapter 8: flow.Used. Conditions: the table is laid, the program lies in memory.
-/
import Derived.Test.YtdpacdmaadodiaaDoorRus8
namespace Go.Proofs.YtdpacdmaadodiaaDoor
open Go.RowKit
/-- The closure of Used: whom a function names. -/
theorem used1_any {V : World} {A : Option Addr} {c pb : Nat} {fs : List Fn} (hT : Tab V) (hf : FnsOk V V.heap.size A fs) (hl : ∀ f ∈ fs, f.code.length ≤ 64) (hb : Blk V pb 24 #[.slice A fs.length c]) (k : Nat) :
    Calls Tryd.prog 38 #[.int .i64 k, .pointer (some ⟨pb, 0, none⟩)] V (RowOut V (clN fs k)) := by
  have HNX := Lib.hid (calls_any (c := c) hT hf hl (k : Int))
  rw [clZ_nat] at HNX
  have f0 : V.cell? ⟨pb, 0, none⟩ = some (.slice A fs.length c) := (hb.cell 0).trans rfl
  obtain ⟨n, HN⟩ : ∃ n, Hid (n = fs.length) := ⟨_, Lib.hid rfl⟩
  rw [← HN.out] at HNX f0
  clear hT hf hb hl
  go_enter Tryd.func38, Tryd.ntmps38
  go_wp2_with (go_at_call 22; refine HNX.out.mono ?_; rintro e V1 ⟨A1, cl, rfl, ho, hb⟩; have HO := Lib.hid ho; have HB := Lib.hid hb; clear ho hb)
  go_ret
  exact ⟨A1, cl, rfl, HO.out, HB.out⟩
set_option maxHeartbeats 1000000 in
theorem used_any {w : World} {A : Option Addr} {c : Nat} {fs : List Fn} (hT : Tab w) (hf : FnsOk w w.heap.size A fs) (hl : ∀ f ∈ fs, f.code.length ≤ 64) (hn : fs.length ≤ 16) :
    Calls Tryd.prog 24 #[.agg #[.slice A fs.length c]] w (RchOut w fs.length (clN fs)) := by
  obtain ⟨W, HW⟩ : ∃ W, Hid (W = w.alloc (.cells #[.slice A fs.length c] 24)) := ⟨_, Lib.hid rfl⟩
  obtain ⟨pb, HFB⟩ : ∃ q, Hid (q = w.heap.size) := ⟨_, Lib.hid rfl⟩
  have hbw : Below w.heap.size w W := by rw [HW.out]; exact (Below.refl _ w).alloc (Nat.le_refl _) _
  have hp : Blk W pb 24 #[.slice A fs.length c] := by rw [HW.out, HFB.out]; exact Blk.new w _ _
  have HR := Lib.hid (reaU_reached (w := W) (fb := pb) (n := fs.length) (nx := clN fs) (by omega) (fun x y hy => cl_lt hy) (fun V x hb _ => used1_any (c := c) ((hT.step hbw).step hb) ((hf.step hbw).step hb) hl (hp.below hb hp.lt) x))
  have HB := Lib.hid hbw
  have p0 : W.cell? ⟨pb, 0, none⟩ = some (.slice A fs.length c) := (hp.cell 0).trans rfl
  clear hT hf hp hbw hl
  obtain ⟨n, HN⟩ : ∃ n, Hid (n = fs.length) := ⟨_, Lib.hid rfl⟩
  rw [← HN.out] at HR HW p0 hn ⊢
  have hw := HW.out
  have hfb := HFB.out
  unfold fvUsed at HR
  go_enter Tryd.func24, Tryd.ntmps24
  go_upto_region 1 with (fail)
  rw [← hw, ← hfb]
  clear hw hfb
  go_wp2_with (go_at_call 29; refine HR.out.mono ?_; rintro e V1 ⟨rk, vs, rfl, h1, h2, h3, h4⟩; have H1 := Lib.hid h1; have H2 := Lib.hid h2; have H3 := Lib.hid h3; have H4 := Lib.hid h4; clear h1 h2 h3 h4)
  go_ret
  exact ⟨rk, vs, rfl, H1.out, Nat.le_trans HB.out.size H2.out, H3.out, HB.out.trans (H4.out.mono HB.out.size)⟩
end Go.Proofs.YtdpacdmaadodiaaDoor

/-
  Proved: the card of MarkPrograms: for every program and number the law returns true. Conditions: the table isa.rows is laid as the program's text lays it (the card ties it).
-/
import Derived.Test.YtfgaonkoaolffaaDoorPrg39
import Derived.Test.YtfgaonkoaolffaaDoorLight9
import Derived.Test.YtfgaonkoaolffaaDoorSame7
import Derived.Test.YtfgaonkoaolffaaDoorFrameD
namespace Go.Proofs.YtfgaonkoaolffaaDoor
open Go.RowKit
def fnFour : Fn := ⟨[⟨0, 0, 0, 0, 0⟩, ⟨0, 0, 0, 0, 0⟩, ⟨0, 0, 0, 0, 0⟩, ⟨14, 0, 0, 0, 0⟩], []⟩
theorem fn_lit9 {w : World} {B g : Nat} {cs : Array Value} (l : List Ins) (h : Blk w g 43 cs) (hg : g < B) (hl : l.length ≤ 70) (hc : cs.toList = l.flatMap insVals) (hi : ∀ i ∈ l, InsOk i) : FnOk w B ⟨some ⟨g, 0, none⟩, l.length, l.length, none, 0, 0⟩ ⟨l, []⟩ :=
  ⟨rfl, rfl, by rw [← hc]; exact row_of_blk h hg, .nil, by simp only [maxLen]; omega, by simp [maxLen], hi⟩
set_option maxRecDepth 10000 in
set_option maxHeartbeats 4000000 in
theorem alive39 (w : World) (hT : Tab w) : Calls Tryd.prog 6 #[] w fun e w' => e = .returned (.bool true) ∧ Below w.heap.size w w' := by
  have E1 := Lib.hid (show (markF 1 fnFour).safe = [false, false, true, false] by decide +kernel)
  have E2 := Lib.hid (show moreF 1 fnFour = 1 by decide +kernel)
  obtain ⟨W, HW⟩ : ∃ W, Hid (W = w.alloc (.cells #[.int .i64 0, .int .i64 0, .int .i64 0, .int .i64 0, .int .i64 0, .int .i64 0, .int .i64 0, .int .i64 0, .int .i64 0, .int .i64 0, .int .i64 0, .int .i64 0, .int .i64 0, .int .i64 0, .int .i64 0, .int .i64 14, .int .i64 0, .int .i64 0, .int .i64 0, .int .i64 0] 43)) := ⟨_, Lib.hid rfl⟩
  have hbw : Below w.heap.size w W := by rw [HW.out]; exact (Below.refl _ _).alloc (Nat.le_refl _) _
  have b1 : Blk W w.heap.size 43 #[.int .i64 0, .int .i64 0, .int .i64 0, .int .i64 0, .int .i64 0, .int .i64 0, .int .i64 0, .int .i64 0, .int .i64 0, .int .i64 0, .int .i64 0, .int .i64 0, .int .i64 0, .int .i64 0, .int .i64 0, .int .i64 14, .int .i64 0, .int .i64 0, .int .i64 0, .int .i64 0] := by rw [HW.out]; exact Blk.new w _ _
  have hok : ∀ i ∈ fnFour.code, InsOk i := by
    intro i hi
    simp only [fnFour, List.mem_cons, List.not_mem_nil, or_false] at hi
    rcases hi with rfl | rfl | rfl | rfl <;> simp [InsOk, I64]
  have hfu := func_any 1 (hT.step hbw) (fn_lit9 fnFour.code b1 b1.lt (by decide) rfl hok) (by decide) (by decide)
  rw [show (max (1 : Int) 0).toNat = 1 from rfl, show (⟨fnFour.code, []⟩ : Fn) = fnFour from rfl, E2.out, HW.out] at hfu
  have HFU := Lib.hid hfu
  have HB := Lib.hid hbw
  clear hT hbw b1 hok hfu
  go_enter Tryd.func6, Tryd.ntmps6
  go_upto_region 2 with (go_at_call 12; refine HFU.out.mono ?_; rintro e V ⟨a', rfl, hfs, hb⟩; have HFS := Lib.hid hfs; have HBV := Lib.hid (show Below W.heap.size W V by rw [HW.out]; exact hb); clear hfs hb)
  obtain ⟨k1, k2, k3, k4, k5⟩ := HFS.out
  have hm : a'.m = 4 := by rw [k2, E1.out]; rfl
  have hrow : Row V V.heap.size a'.S (boolVals [false, false, true, false]) := by rw [← E1.out]; exact k4.row (fun _ hb => hb.2)
  obtain ⟨b, off, eS, hb, hc⟩ := hrow.at_ (k := 0) (by decide)
  obtain ⟨AC, an, ac, AS, am, ad⟩ := a'
  simp only at eS hm
  subst eS
  subst hm
  obtain ⟨X, HX⟩ : ∃ X, Hid (X = V.alloc (.cells #[.slice AC an ac, .slice (some ⟨b, off, none⟩) 4 ad] 39)) := ⟨_, Lib.hid rfl⟩
  have HBX := Lib.hid (show Below V.heap.size V X by rw [HX.out]; exact (Below.refl _ _).alloc (Nat.le_refl _) _)
  have HNB := Lib.hid (show Blk X V.heap.size 39 #[.slice AC an ac, .slice (some ⟨b, off, none⟩) 4 ad] by rw [HX.out]; exact Blk.new V _ _)
  rw [← HX.out]
  have r1 : X.cell? ⟨V.heap.size, 1, none⟩ = some (.slice (some ⟨b, off, none⟩) 4 ad) := (HNB.out.cell 1).trans rfl
  have c1 : X.cell? ⟨b, off + 1, none⟩ = some (.bool false) := (HBX.out.cell hb).trans (hc 1 _ rfl)
  have c2 : X.cell? ⟨b, off + 2, none⟩ = some (.bool true) := (HBX.out.cell hb).trans (hc 2 _ rfl)
  have c3 : X.cell? ⟨b, off + 3, none⟩ = some (.bool false) := (HBX.out.cell hb).trans (hc 3 _ rfl)
  clear k1 k2 k3 k4 k5 hb hc hrow HFS HFU
  go_wp2_with fail
  go_ret
  have h1 := HB.out.trans (HBV.out.mono HB.out.size)
  exact ⟨rfl, h1.trans (HBX.out.mono h1.size)⟩
theorem prog_ok {A : Option Addr} {c : Nat} {fs : List Fn} {most : Int} {w : World} {go : FuncId} (hc : (checkP fs).2.2 = 0) (h : Calls Tryd.prog go #[.agg #[.slice A fs.length c], .int .i64 most] w (ProgOut w (max most 0).toNat fs)) :
    Calls Tryd.prog go #[.agg #[.slice A fs.length c], .int .i64 most] w fun e w' => ∃ G cG, e = .returned (.tuple #[.agg #[.slice G fs.length cG], .int .i64 (allM (max most 0).toNat fs), .int .i64 0]) ∧ FnsOk w' w'.heap.size G (markP (max most 0).toNat fs) ∧ Below w.heap.size w w' :=
  h.mono fun e w' ⟨hb, h⟩ => by
    rcases h with ⟨h1, _⟩ | ⟨_, G, cG, h2, h3⟩
    · exact absurd hc h1
    · exact ⟨G, cG, h2, h3, hb⟩
theorem prog_bad {A : Option Addr} {c : Nat} {fs : List Fn} {most : Int} {w : World} {go : FuncId} (hc : (checkP fs).2.2 ≠ 0) (h : Calls Tryd.prog go #[.agg #[.slice A fs.length c], .int .i64 most] w (ProgOut w (max most 0).toNat fs)) :
    Calls Tryd.prog go #[.agg #[.slice A fs.length c], .int .i64 most] w fun e w' => e = .returned (.tuple #[.agg #[.slice none 0 0], .int .i64 0, .int .i64 1]) ∧ Below w.heap.size w w' :=
  h.mono fun e w' ⟨hb, h⟩ => by
    rcases h with ⟨_, h2⟩ | ⟨h1, _⟩
    · exact ⟨h2, hb⟩
    · exact absurd h1 hc
theorem fns_nil (w : World) (B : Nat) (A : Option Addr) : FnsOk w B A [] := ⟨[], rfl, fun _ h => absurd h (Nat.not_lt_zero _), .nil⟩
end Go.Proofs.YtfgaonkoaolffaaDoor
namespace Go.Proofs.YtfgaonkoaolffaaDoor
open Go.RowKit
set_option maxRecDepth 10000 in
set_option maxHeartbeats 4000000 in
theorem programs39 (A : Option Addr) (c : Nat) (fs : List Fn) (most : Int) (w : World) (hT : Tab w) (hm : fs.length ≤ maxLen) (hf : FnsOk w w.heap.size A fs) :
    Calls Tryd.prog 3 #[.agg #[.slice A fs.length c], .int .i64 most] w fun e w' => e = .returned (.bool true) ∧ Below w.heap.size w w' := by
  obtain ⟨W, HW⟩ : ∃ W, Hid (W = w.alloc (.cells #[.slice A fs.length c] 24)) := ⟨_, Lib.hid rfl⟩
  obtain ⟨pb, HPB⟩ : ∃ q, Hid (q = w.heap.size) := ⟨_, Lib.hid rfl⟩
  have hbw : Below w.heap.size w W := by rw [HW.out]; exact (Below.refl _ _).alloc (Nat.le_refl _) _
  have HB := Lib.hid hbw
  have HP := Lib.hid (show Blk W pb 24 #[.slice A fs.length c] by rw [HW.out, HPB.out]; exact Blk.new w _ _)
  have HT := Lib.hid (hT.step hbw)
  have HF := Lib.hid (hf.step hbw)
  have HC := Lib.hid (light_any A c fs W hm (hf.step hbw))
  obtain ⟨lp, HLP⟩ : ∃ b, Hid (b = lightP fs) := ⟨_, Lib.hid rfl⟩
  rw [← HLP.out] at HC
  have HAL := Lib.hid (fun (V : World) (h : Below W.heap.size W V) => alive39 V (HT.out.step h))
  have HPR := Lib.hid (fun (V : World) (h : Below W.heap.size W V) => prog_any A c fs most V (HT.out.step h) hm (HF.out.step h))
  have HRP := Lib.hid (fun (V : World) (h : Below W.heap.size W V) => rprog_any A c fs most V hm (HF.out.step h))
  obtain ⟨gs, HGS⟩ : ∃ l, Hid (l = markP (max most 0).toNat fs) := ⟨_, Lib.hid rfl⟩
  have HGL := Lib.hid (show gs.length = fs.length by rw [HGS.out]; simp [markP])
  have hmx : fs.length ≤ maxLen := hm
  have hpb := HPB.out
  clear hT hf hm hbw
  cases lp with
  | false =>
    obtain ⟨n, HN⟩ : ∃ n, Hid (n = fs.length) := ⟨_, Lib.hid rfl⟩
    rw [← HN.out] at HC HP HW ⊢
    have p0 : W.cell? ⟨pb, 0, none⟩ = some (.slice A n c) := HP.out.cell 0
    go_enter Tryd.func3, Tryd.ntmps3
    go_upto_region 1 with (fail)
    rw [← HW.out, ← hpb]
    clear hpb
    go_wp2_with (first | (go_at_call 5; refine HC.out.mono ?_; rintro e W1 ⟨rfl, hb1⟩; have HB1 := Lib.hid hb1; clear hb1) | (go_at_call 6; refine (HAL.out _ HB1.out).mono ?_; rintro e W2 ⟨rfl, hb2⟩; have HB2 := Lib.hid hb2; clear hb2))
    go_ret
    exact ⟨rfl, HB.out.trans ((HB1.out.trans (HB2.out.mono HB1.out.size)).mono HB.out.size)⟩
  | true =>
    by_cases hx : (checkP fs).2.2 = 0
    · have HPR := Lib.hid (fun (V : World) (h : Below W.heap.size W V) => prog_ok hx (HPR.out V h))
      have HRP := Lib.hid (fun (V : World) (h : Below W.heap.size W V) => prog_ok hx (HRP.out V h))
      have HSM := Lib.hid (fun (V : World) (G H : Option Addr) (g h : Nat) (ha : FnsOk V V.heap.size G gs) (hb : FnsOk V V.heap.size H gs) => same7_true G H g h gs V (by rw [HGL.out]; exact hmx) ha hb)
      obtain ⟨al, HAL2⟩ : ∃ x, Hid (x = allM (max most 0).toNat fs) := ⟨_, Lib.hid rfl⟩
      simp only [← HAL2.out, ← HGS.out] at HPR HRP
      rw [HGL.out] at HSM
      obtain ⟨n, HN⟩ : ∃ n, Hid (n = fs.length) := ⟨_, Lib.hid rfl⟩
      rw [← HN.out] at HC HP HW HPR HRP HSM ⊢
      have p0 : W.cell? ⟨pb, 0, none⟩ = some (.slice A n c) := HP.out.cell 0
      clear hx hmx
      go_enter Tryd.func3, Tryd.ntmps3
      go_upto_region 1 with (fail)
      rw [← HW.out, ← hpb]
      clear hpb
      go_upto_region 3 with (go_at_call 5; refine HC.out.mono ?_; rintro e W1 ⟨rfl, hb1⟩; have HB1 := Lib.hid hb1; have p1 : W1.cell? ⟨pb, 0, none⟩ = some (.slice A n c) := (HP.out.below hb1 HP.out.lt).cell 0; clear hb1)
      go_upto_region 4 with (go_at_call 7; refine (HPR.out _ HB1.out).mono ?_; rintro e V1 ⟨G, cG, rfl, hfn, hb⟩; have HV1 := Lib.hid (HB1.out.trans (hb.mono HB1.out.size)); have HG1 := Lib.hid hfn; clear hfn hb)
      obtain ⟨X1, HX1⟩ : ∃ X, Hid (X = V1.alloc (.cells #[.slice G n cG] 24)) := ⟨_, Lib.hid rfl⟩
      obtain ⟨ba, HBA⟩ : ∃ X, Hid (X = V1.heap.size) := ⟨_, Lib.hid rfl⟩
      rw [← HX1.out, ← HBA.out]
      have hb1 : Below V1.heap.size V1 X1 := by rw [HX1.out]; exact (Below.refl _ _).alloc (Nat.le_refl _) _
      have HXW := Lib.hid (HV1.out.trans (hb1.mono HV1.out.size))
      have HGX := Lib.hid (HG1.out.step hb1)
      have HBOX := Lib.hid (show Blk X1 ba 24 #[.slice G n cG] by rw [HX1.out, HBA.out]; exact Blk.new V1 _ _)
      have p2 : X1.cell? ⟨pb, 0, none⟩ = some (.slice A n c) := (HP.out.below HXW.out HP.out.lt).cell 0
      clear hb1 p1 p0
      go_upto_region 5 with (go_at_call 8; refine (HRP.out _ HXW.out).mono ?_; rintro e V2 ⟨H, cH, rfl, hfn, hb⟩; have HV2 := Lib.hid (HXW.out.trans (hb.mono HXW.out.size)); have HG2 := Lib.hid hfn; have HGX2 := Lib.hid (HGX.out.step hb); have HBOX2 := Lib.hid (HBOX.out.below hb HBOX.out.lt); clear hfn hb)
      obtain ⟨X2, HX2⟩ : ∃ X, Hid (X = V2.alloc (.cells #[.slice H n cH] 24)) := ⟨_, Lib.hid rfl⟩
      obtain ⟨bb, HBB⟩ : ∃ X, Hid (X = V2.heap.size) := ⟨_, Lib.hid rfl⟩
      rw [← HX2.out, ← HBB.out]
      have hb2 : Below V2.heap.size V2 X2 := by rw [HX2.out]; exact (Below.refl _ _).alloc (Nat.le_refl _) _
      have HXW2 := Lib.hid (HV2.out.trans (hb2.mono HV2.out.size))
      have HGX3 := Lib.hid (HGX2.out.step hb2)
      have HHX3 := Lib.hid (HG2.out.step hb2)
      have q0 : X2.cell? ⟨ba, 0, none⟩ = some (.slice G n cG) := (HBOX2.out.below hb2 HBOX2.out.lt).cell 0
      have q1 : X2.cell? ⟨bb, 0, none⟩ = some (.slice H n cH) := (show Blk X2 bb 24 #[.slice H n cH] by rw [HX2.out, HBB.out]; exact Blk.new V2 _ _).cell 0
      clear hb2 p2
      go_wp2_with (first | (go_at_call 9; refine (HSM.out _ _ _ _ _ HGX3.out HHX3.out).mono ?_; rintro e V3 ⟨rfl, hb⟩; have HV3 := Lib.hid (HXW2.out.trans (hb.mono HXW2.out.size)); clear hb) | (go_at_call 6; refine (HAL.out _ HV3.out).mono ?_; rintro e V4 ⟨rfl, hb⟩; have HB4 := Lib.hid hb; clear hb))
      go_ret
      exact ⟨rfl, HB.out.trans ((HV3.out.trans (HB4.out.mono HV3.out.size)).mono HB.out.size)⟩
    · have HPR := Lib.hid (fun (V : World) (h : Below W.heap.size W V) => prog_bad hx (HPR.out V h))
      have HRP := Lib.hid (fun (V : World) (h : Below W.heap.size W V) => prog_bad hx (HRP.out V h))
      have HSM := Lib.hid (fun (V : World) => same7_true none none 0 0 [] V (by decide) (fns_nil _ _ _) (fns_nil _ _ _))
      rw [show ([] : List Fn).length = 0 from rfl] at HSM
      obtain ⟨n, HN⟩ : ∃ n, Hid (n = fs.length) := ⟨_, Lib.hid rfl⟩
      rw [← HN.out] at HC HP HW HPR HRP ⊢
      have p0 : W.cell? ⟨pb, 0, none⟩ = some (.slice A n c) := HP.out.cell 0
      clear hx hmx
      go_enter Tryd.func3, Tryd.ntmps3
      go_upto_region 1 with (fail)
      rw [← HW.out, ← hpb]
      clear hpb
      go_upto_region 3 with (go_at_call 5; refine HC.out.mono ?_; rintro e W1 ⟨rfl, hb1⟩; have HB1 := Lib.hid hb1; have p1 : W1.cell? ⟨pb, 0, none⟩ = some (.slice A n c) := (HP.out.below hb1 HP.out.lt).cell 0; clear hb1)
      go_upto_region 4 with (go_at_call 7; refine (HPR.out _ HB1.out).mono ?_; rintro e V1 ⟨rfl, hb⟩; have HV1 := Lib.hid (HB1.out.trans (hb.mono HB1.out.size)); clear hb)
      obtain ⟨X1, HX1⟩ : ∃ X, Hid (X = V1.alloc (.cells #[.slice none 0 0] 24)) := ⟨_, Lib.hid rfl⟩
      obtain ⟨ba, HBA⟩ : ∃ X, Hid (X = V1.heap.size) := ⟨_, Lib.hid rfl⟩
      rw [← HX1.out, ← HBA.out]
      have hb1 : Below V1.heap.size V1 X1 := by rw [HX1.out]; exact (Below.refl _ _).alloc (Nat.le_refl _) _
      have HXW := Lib.hid (HV1.out.trans (hb1.mono HV1.out.size))
      have HBOX := Lib.hid (show Blk X1 ba 24 #[.slice none 0 0] by rw [HX1.out, HBA.out]; exact Blk.new V1 _ _)
      have p2 : X1.cell? ⟨pb, 0, none⟩ = some (.slice A n c) := (HP.out.below HXW.out HP.out.lt).cell 0
      clear hb1 p1 p0
      go_upto_region 5 with (go_at_call 8; refine (HRP.out _ HXW.out).mono ?_; rintro e V2 ⟨rfl, hb⟩; have HV2 := Lib.hid (HXW.out.trans (hb.mono HXW.out.size)); have HBOX2 := Lib.hid (HBOX.out.below hb HBOX.out.lt); clear hb)
      obtain ⟨X2, HX2⟩ : ∃ X, Hid (X = V2.alloc (.cells #[.slice none 0 0] 24)) := ⟨_, Lib.hid rfl⟩
      obtain ⟨bb, HBB⟩ : ∃ X, Hid (X = V2.heap.size) := ⟨_, Lib.hid rfl⟩
      rw [← HX2.out, ← HBB.out]
      have hb2 : Below V2.heap.size V2 X2 := by rw [HX2.out]; exact (Below.refl _ _).alloc (Nat.le_refl _) _
      have HXW2 := Lib.hid (HV2.out.trans (hb2.mono HV2.out.size))
      have q0 : X2.cell? ⟨ba, 0, none⟩ = some (.slice none 0 0) := (HBOX2.out.below hb2 HBOX2.out.lt).cell 0
      have q1 : X2.cell? ⟨bb, 0, none⟩ = some (.slice none 0 0) := (show Blk X2 bb 24 #[.slice none 0 0] by rw [HX2.out, HBB.out]; exact Blk.new V2 _ _).cell 0
      clear hb2 p2
      go_wp2_with (first | (go_at_call 9; refine (HSM.out _).mono ?_; rintro e V3 ⟨rfl, hb⟩; have HV3 := Lib.hid (HXW2.out.trans (hb.mono HXW2.out.size)); clear hb) | (go_at_call 6; refine (HAL.out _ HV3.out).mono ?_; rintro e V4 ⟨rfl, hb⟩; have HB4 := Lib.hid hb; clear hb))
      go_ret
      exact ⟨rfl, HB.out.trans ((HV3.out.trans (HB4.out.mono HV3.out.size)).mono HB.out.size)⟩
end Go.Proofs.YtfgaonkoaolffaaDoor
namespace Go.Proofs.YtfgaonkoaolffaaDoor
open Go.ChangeShapes Go.WideShapes Go.ChangeAt Go.RowKit Go.Joins Go.Deep
namespace lawMarkPrograms
set_option maxRecDepth 100000 in
theorem contract (H : Type) (enc : TypeId × Value → H) (W : World) (base : Nat) (args : Array Value) (ds gs : List (DataW H)) (before : List MemPlace)
    (hval : ∀ (j : Nat) t v, Tryd.f3.params[j]? = some t → args[j]? = some v → Value.okWide Tryd.prog W .any base t v)
    (hW : DataW.Whole enc Tryd.prog Tryd.f3.params.toList Rows.markProgramsSpec.vars false W args.toList ds gs before) (hL : laidMetH Tryd.prog Rows.markProgramsRow.laid W) :
    Calls Tryd.prog 3 args W fun e W' => ∃ v, e = .returned v ∧ Rows.markProgramsSpec.post enc Tryd.prog Tryd.f3 false true false false W args v W' := by
  have hTab : Tab W := tab_of_laid hL
  clear hL
  have hW' := hW
  obtain ⟨p, q, hA0, hV, rfl, _, _⟩ := hW
  have hA : DataW.TrodAll enc Tryd.prog W 0 (fun _ => true) true Tryd.f3.params.toList args.toList ds p := hA0
  rw [Tryd.params3] at hA hval
  have hlt : ∀ x ∈ p, x.block < W.heap.size := fun x hx => hW'.lt x (by simp [hx])
  obtain ⟨v0, v1, d0, d1, p0, p1, rfl, rfl, rfl, h0, h1⟩ := trodAll_two hA
  obtain ⟨A, c, fs, rfl, hm, hfs⟩ := open_prog (hval 0 _ v0 rfl rfl) h0 (fun q hq => hlt q (by simp [hq]))
  obtain ⟨x, rfl, rfl, rfl, wx⟩ := open_int Tryd.underlying3 (hval 1 3 v1 rfl rfl) h1
  obtain ⟨rfl, rfl⟩ := trodVars_none hV
  refine (programs39 A c fs x W hTab hm hfs).mono fun e W' ⟨he, hb⟩ => ?_
  subst he
  exact ⟨_, rfl, law_post Tryd.laidOut rfl Tryd.underlying4 (by kernel_rfl) (by kernel_rfl) ⟨rfl, rfl, rfl⟩ hW' hb⟩
theorem laid_met (os : Os) : laidMet Tryd.prog Rows.markProgramsRow.laid ((laidWorld os).forCall (fun _ _ => 0) ⟨#[], #[.agg #[.slice none 0 0], .int .i64 0], []⟩).memory :=
  laidMet_of_run' 8 (by kernel_rfl) (by kernel_rfl)
theorem reads (os : Os) {H : Type} (enc : TypeId × Value → H) : ∃ places, DataW.whole enc Tryd.prog ((laidWorld os).forCall (fun _ _ => 0) ⟨#[], #[.agg #[.slice none 0 0], .int .i64 0], []⟩).memory Tryd.f3.params.toList Rows.markProgramsSpec.vars false (#[.agg #[.slice none 0 0], .int .i64 0] : Array Value).toList 8 = some ([.agg [.nil], .lit (.int .i64 0)], [], places) :=
  ⟨[], by kernel_rfl⟩
set_option maxRecDepth 100000 in
theorem lifted (os : Os) (started : os.Started) (H : Type) (enc : TypeId × Value → H) (F : Stop.Interp) :
    ReturnsInHanded {} Tryd.checked os 3 .any ((OpenSpec.ofChange Rows.markProgramsSpec).preRow enc Tryd.prog Tryd.f3 Rows.markProgramsRow.domain false Rows.markProgramsRow.laid) (((OpenSpec.ofChange Rows.markProgramsSpec).at F).post enc Tryd.prog Tryd.f3 false true false false) := by
  obtain ⟨places, hx⟩ := reads os enc
  refine returnsInHanded_of_row (C := Tryd.checked) (s := OpenSpec.ofChange Rows.markProgramsSpec) Tryd.own started (by kernel_rfl) Tryd.func3
    (witness_row_at (enc := enc) (C := Tryd.checked) false (laidWorld os) #[.agg #[.slice none 0 0], .int .i64 0] rfl (by kernel_rfl) (by kernel_rfl) (by kernel_rfl)
      (OpenSpec.preRow_of_cond 8 hx (by kernel_rfl) (fun k hk => by cases hk) (by kernel_rfl) (laid_met os))) ?_
  intro W base args ds gs before hval hW _ _ _ hL _ _
  exact contract H enc W base args ds gs before hval hW hL
theorem said : Rows.MarkProgramsSaid :=
  OpenClaim.holds_of_cond 3 Tryd.f3 rfl rfl rfl rfl rfl rfl rfl ⟨rfl, rfl, rfl, rfl, rfl⟩ rfl rfl rfl rfl rfl (by kernel_rfl) Tryd.func3 (by kernel_rfl)
    (of_decide_eq_true (by kernel_rfl)) (by unfold Func.isWrapper; first | (rw [if_pos (by decide +kernel)]; kernel_rfl) | (rw [if_neg (by decide +kernel)]; exact ⟨rfl, rfl⟩))
    (fun os started H enc _ F => by rw [OpenClaim.pre_eq_preRow]; exact lifted os started H enc F)
theorem plain (f : FuncId) (fn : Func) (hf : Tryd.pinned.checked.prog.funcNamed "escapement/escapementlaw39.MarkPrograms" = some f) (hfn : Tryd.pinned.checked.prog.funcs[f]? = some fn) :
    false = Tryd.pinned.checked.prog.looks [] ∧ ∀ (j : Nat) t, fn.params[j]? = some t → Tryd.pinned.checked.prog.wantsStandIn t = false := by
  obtain rfl : f = 3 := Option.some.inj ((show Tryd.prog.funcNamed "escapement/escapementlaw39.MarkPrograms" = some 3 by kernel_rfl).symm.trans hf) |>.symm
  obtain rfl : fn = Tryd.f3 := (Option.some.inj (Tryd.func3.symm.trans hfn)).symm
  refine ⟨by kernel_rfl, fun j t ht => ?_⟩
  exact no_stand (by kernel_rfl) (Array.mem_of_getElem? ht)
theorem card : Rows.MarkProgramsCardSaid :=
  Claim7.holds_tied_plain_at .later [] _ _ _ _ said (fun _ h => by cases h) (by kernel_rfl) (fun _ h => by cases h) markPrograms_row_tie rfl ⟨rfl, rfl⟩ (by kernel_rfl) rfl plain (by kernel_rfl)
end lawMarkPrograms
#print axioms lawMarkPrograms.card

end Go.Proofs.YtfgaonkoaolffaaDoor

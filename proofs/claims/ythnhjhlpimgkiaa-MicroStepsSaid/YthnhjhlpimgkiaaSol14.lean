/-
  The law MicroSolos, as a contract.
-/
import Derived.Test.YthnhjhlpimgkiaaAlo14
import Derived.Test.YthnhjhlpimgkiaaTas14
import Derived.Test.YthnhjhlpimgkiaaAlv14
import Derived.LoopTactic
namespace Go.Proofs.Ythnhjhlpimgkiaa
open Go.RowKit
theorem TI.mono {w : World} {Q Q' : Nat → Prop} {gt gr gc gl kc size cnt : Nat} {ex : List Value} {xs : List Int} {P : Pt} (I : TI w Q gt gr gc gl kc ex size xs cnt P) (h : ∀ b, Q b → Q' b) (hf : ¬ Q' gr ∧ ¬ Q' gc ∧ ¬ Q' gl) : TI w Q' gt gr gc gl kc ex size xs cnt P := by
  obtain ⟨A, c, G, m, e, I⟩ := I
  exact ⟨A, c, G, m, e, I.mem, I.buf, I.got, fun hd b hb => ⟨h b (I.bufQ hd b hb).1, (I.bufQ hd b hb).2⟩, fun b hb => ⟨h b (I.gotQ b hb).1, (I.gotQ b hb).2⟩, h _ I.gtQ, hf, I.few, I.hot⟩
/-- A task at its beginning. -/
theorem ti_zero {w : World} {Q : Nat → Prop} {gt gr gc gl kc size cnt : Nat} {ex : List Value} {xs : List Int} {P : Pt} (M : M14 w gt gr gc gl kc ex size xs cnt (tk P none 0 none 0 0)) (h1 : P.bs = []) (h2 : P.gs = []) (hq : Q gt) (hf : ¬ Q gr ∧ ¬ Q gc ∧ ¬ Q gl) : TI w Q gt gr gc gl kc ex size xs cnt P :=
  ⟨none, 0, none, 0, 0, M, fun _ => by rw [h1]; exact Own.nil _ _ _ _, by rw [h2]; exact Own.nil _ _ _ _, fun _ b hb => (by cases hb), fun b hb => (by cases hb), hq, hf, by rw [h1]; exact Nat.zero_le _, fun _ => rfl⟩
theorem TI.size {w : World} {Q : Nat → Prop} {gt gr gc gl kc size cnt : Nat} {ex : List Value} {xs : List Int} {P : Pt} (I : TI w Q gt gr gc gl kc ex size xs cnt P) : gt < w.heap.size ∧ gr < w.heap.size ∧ gc < w.heap.size ∧ gl < w.heap.size := by
  obtain ⟨A, c, G, m, e, I⟩ := I
  exact ⟨I.mem.task.lt, I.mem.ring.lt, I.mem.cells.head.lt, I.mem.cells.row.lt⟩
theorem actP_bs (k g : Int) : (actP k g).bs = [] ∧ (actP k g).gs = [] ∧ (actP k g).steps = 0 := by
  unfold actP
  repeat' split
  all_goals exact ⟨rfl, rfl, rfl⟩
theorem actP_left (k g : Int) (size : Nat) : left size (actP k g) ≤ size / 2 + 6 := by
  unfold actP left
  by_cases h0 : k = 0
  · by_cases h : g < 1 <;> simp [h0, h]
  · by_cases h1 : k = 1
    · by_cases h : g < 1 <;> simp [h1, h]
    · by_cases h2 : k = 2
      · simp [h2]
      · simp [h0, h1, h2]
theorem actP_loc (k g : Int) (size : Nat) (xs : List Int) (h : Nat) : Loc size xs (actP k g) h := by
  unfold actP Loc
  by_cases h0 : k = 0
  · by_cases h : g < 1 <;> simp [h0, h]
  · by_cases h1 : k = 1
    · by_cases h : g < 1 <;> simp [h1, h]
    · by_cases h2 : k = 2
      · simp [h2]
      · simp [h0, h1, h2]
theorem left_zero {size : Nat} {P : Pt} (h : left size P = 0) : P.d = none := by
  unfold left at h
  cases hd : P.d with
  | none => rfl
  | some a =>
    rw [hd] at h
    cases a <;> simp at h
theorem filled_low (a : Int) (sz : Nat) (row : List Int) (nx : Int) (j : Nat) (hj : j < 3) : ∀ k, (filled a sz row nx k).getD j 0 = (filled a sz row nx 0).getD j 0
  | 0 => rfl
  | k + 1 => by
    show (List.set _ _ _).getD _ _ = _
    rw [getD_set _ _ _ _ (by omega), filled_low a sz row nx j hj k]
theorem filled_al {a : Int} {sz : Nat} {row : List Int} {nx : Int} (hs : sz = 2 ∨ sz = 4 ∨ sz = 8) (ha : 0 ≤ a ∧ a < 4294967296) (hr : row.length ≤ sz) (k g : Int) : Al sz (filled a sz row nx row.length) (actP k g) := by
  refine .inr ⟨hs, a.toNat, u (a + row.length), ?_, ?_, by omega, u_lt _, ?_, actP_loc _ _ _ _ _⟩
  · rw [filled_low _ _ _ _ 0 (by omega)]
    show a = _
    omega
  · rw [filled_low _ _ _ _ 1 (by omega)]
    rfl
  · have h2 : u ((u (a + row.length) : Int) - (a.toNat : Int)) = row.length := by
      unfold u
      omega
    rw [h2]
    exact hr
theorem fits_sz {sz : Nat} (hs : sz = 2 ∨ sz = 4 ∨ sz = 8) : Fits (sz : Int) (sz + 3) := by
  rcases hs with rfl | rfl | rfl <;> (unfold Fits; decide)
theorem steps_at {w : World} {Q : Nat → Prop} {gt gr gc gl kc size cnt k : Nat} {ex : List Value} {xs : List Int} {P : Pt} (I : TI w Q gt gr gc gl kc ex size xs cnt P) (h : P.steps = k + 1) : Calls Try.prog 15 #[.pointer (some ⟨gt, 0, none⟩)] w fun e w' => e = .returned (.int .i64 ((k : Int) + 1)) ∧ w = w' := by
  have := steps_any I
  rw [h] at this
  exact this
/-- MicroSolos. -/
theorem solos_law {a nx size kind g : Int} {A : Option Addr} {n c : Nat} {row : List Int} {w : World} (ha : 0 ≤ a ∧ a < 4294967296) (hl : row.length = n) (hr : Row w w.heap.size A (ints row)) :
    Calls Try.prog 4 #[.agg #[.int .u32 a, .slice A n c, .int .i64 nx], .int .i64 size, .agg #[.int .i64 kind, .int .i64 g]] w fun e w' => e = .returned (.bool true) ∧ Below w.heap.size w w' := by
  obtain ⟨m, HM⟩ : ∃ m, Hid (m = w.heap.size) := ⟨_, Lib.hid rfl⟩
  obtain ⟨W, HW⟩ : ∃ W, Hid (W = (w.alloc (.cells #[.int .u32 a, .slice A n c, .int .i64 nx] 37)).alloc (.cells #[.int .i64 kind, .int .i64 g] 39)) := ⟨_, Lib.hid rfl⟩
  have hbw : Below m w W := by rw [HW.out, HM.out]; exact ((Below.refl _ w).alloc (Nat.le_refl _) _).alloc (by simp) _
  have hsz : W.heap.size = m + 2 := by rw [HW.out, World.size_alloc, World.size_alloc, HM.out]
  have HBW := Lib.hid hbw
  have HSZ := Lib.hid hsz
  have HB0 := Lib.hid (show Blk W m 37 #[.int .u32 a, .slice A n c, .int .i64 nx] by rw [HW.out, HM.out]; exact (Blk.new _ _ _).alloc _)
  have HB1 := Lib.hid (show Blk W (m + 1) 39 #[.int .i64 kind, .int .i64 g] by
    have := Blk.new (w.alloc (.cells #[.int .u32 a, .slice A n c, .int .i64 nx] 37)) 39 #[.int .i64 kind, .int .i64 g]
    rw [World.size_alloc, ← HM.out] at this
    rw [HW.out]
    exact this)
  have HLD := Lib.hid (laid_any (nx := nx) (size := size) (c := c) ha hl ((hr.below (show Below w.heap.size w W by rw [← HM.out]; exact hbw)).more (show w.heap.size ≤ W.heap.size from hbw.size)))
  have HA := Lib.hid ha
  rw [← HM.out]
  clear hbw hsz ha hl hr
  go_enter Try.func4, Try.ntmps4
  go_wp2_with fail
  rw [show (w.alloc (.cells #[.int .u32 a, .slice A n c, .int .i64 nx] 37)).alloc (.cells #[.int .i64 kind, .int .i64 g] 39) = W from HW.out.symm, ← HM.out]
  refine HLD.out.mono ?_
  rintro e w1 (⟨rfl, hb1⟩ | ⟨sz, rfl, hs, hlen, hnx, g0, rfl, hblk, hg0, hb1, -⟩)
  · have H1 := Lib.hid (show Below m w w1 from HBW.out.trans (hb1.mono (by have := HSZ.out; omega)))
    clear hb1 HLD
    go_wp2_with (go_at_call 16; refine (alive14 _).mono ?_; rintro e w4 ⟨rfl, hb4⟩)
    go_ret
    exact ⟨rfl, H1.out.trans (hb4.mono (by have := H1.out.size; have := HM.out; omega))⟩
  · have HLEN := Lib.hid hlen
    have H1 := Lib.hid (show Below m w w1 from HBW.out.trans (hb1.mono (by have := HSZ.out; omega)))
    have HA1 := Lib.hid (show Blk w1 (m + 1) 39 #[.int .i64 kind, .int .i64 g] from HB1.out.below hb1 (by have := HSZ.out; omega))
    have HS1 := Lib.hid (show m + 3 ≤ w1.heap.size by have := hblk.lt; have := HSZ.out; omega)
    have HCO := Lib.hid (cellsOf_any hblk (filled_length _ _ _ _ _) (by omega))
    obtain ⟨xs, HX⟩ : ∃ xs, Hid (xs = filled a sz row nx row.length) := ⟨_, Lib.hid rfl⟩
    rw [← HX.out] at HCO
    have hs2 : 2 ≤ sz ∧ sz ≤ 8 := by omega
    have HS := Lib.hid hs
    clear hb1 hblk hg0 hnx HLD hlen HB1 HB0 hs
    go_wp2_with (go_at_call 18; refine HCO.out.mono ?_; rintro e w2 ⟨rfl, hC2, hb2⟩)
    obtain ⟨gl, HGL⟩ : ∃ gl, Hid (gl = w1.heap.size) := ⟨_, Lib.hid rfl⟩
    obtain ⟨gc, HGC⟩ : ∃ gc, Hid (gc = gl + 1) := ⟨_, Lib.hid rfl⟩
    rw [← HGL.out, ← HGC.out] at hC2 ⊢
    have hxl : xs.length = sz + 3 := by rw [HX.out]; exact filled_length _ _ _ _ _
    have HN := Lib.hid (mnew_any (some ⟨gc, 0, none⟩) (sz + 3) sz w2 (by have := clen_any hC2; rw [hxl] at this; exact this) (fits_sz HS.out))
    have H2 := Lib.hid (show Below m w w2 from H1.out.trans (hb2.mono (by have := HS1.out; omega)))
    have HA2 := Lib.hid (show Blk w2 (m + 1) 39 #[.int .i64 kind, .int .i64 g] from HA1.out.below hb2 (by have := HS1.out; omega))
    have HC2 := Lib.hid hC2
    have HXL := Lib.hid hxl
    clear hb2 hC2 hxl
    refine HN.out.mono ?_
    rintro e w3 ⟨rfl, hw3⟩
    obtain ⟨gr, HGR⟩ : ∃ gr, Hid (gr = w2.heap.size) := ⟨_, Lib.hid rfl⟩
    rw [← HGR.out]
    have hb3 : Below w2.heap.size w2 w3 := by rw [hw3]; exact (Below.refl _ w2).alloc (Nat.le_refl _) _
    have HB3 := Lib.hid (show B14 w3 gr gc gl (sz + 3) [] sz xs (sz + 3) from ⟨HC2.out.below hb3, by rw [hw3, HGR.out]; exact Blk.new _ _ _, ⟨by have := HC2.out.head.lt; have := HGR.out; omega, by have := HC2.out.row.lt; have := HGR.out; omega⟩, ⟨HS.out, by rw [HXL.out]; exact Nat.le_refl _⟩, by omega⟩)
    have H3 := Lib.hid (show Below m w w3 from H2.out.trans (hb3.mono (by have := HC2.out.head.lt; have := HGC.out; have := HGL.out; have := HS1.out; omega)))
    have HA3 := Lib.hid (show Blk w3 (m + 1) 39 #[.int .i64 kind, .int .i64 g] from HA2.out.below hb3 HA2.out.lt)
    have HLT := Lib.hid (show m + 2 < gl ∧ gl < gc ∧ gc < gr ∧ gr < w3.heap.size from ⟨by have := HGL.out; have := HS1.out; omega, by have := HGC.out; omega, by have := HC2.out.head.lt; have := HGR.out; omega, HB3.out.ring.lt⟩)
    have HT := Lib.hid (task_any HB3.out kind g)
    clear hb3 hw3 HN HC2 HA2 HA1 HCO
    go_wp2_with (first | (go_at_call 19; refine HT.out.mono ?_; rintro e w4 ⟨gt, rfl, hgt, hM4, hb4⟩) | (refine wpList_load_row rfl 39 _ rfl (m + 1) rfl 39 #[.int .i64 kind, .int .i64 g] (0, 0) _ HA3.out (st_of (by kernel_rfl)).choose_spec rfl (by kernel_rfl) ?_) | (refine wpList_store_row rfl 44 _ _ rfl w4.heap.size (rtArr (actR kind g) (.slice none 0 0) (.slice none 0 0)) rfl rfl 44 z44 (Blk.new w4 _ z44) Try.infoRt rfl (rtArr_one _ _ _ _ _ _ _) ?_))
    obtain ⟨w5, HW5⟩ : ∃ w5, Hid (w5 = (w4.alloc (.cells z44 44)).setRow w4.heap.size (rtArr (actR kind g) (.slice none 0 0) (.slice none 0 0))) := ⟨_, Lib.hid rfl⟩
    rw [show ((w4.alloc (.cells #[.int .i64 0, .int .u8 0, .int .i64 0, .int .i64 0, .int .i64 0, .int .i64 0, .int .i64 0, .slice none 0 0, .slice none 0 0, .int .i64 0] 44)).setRow w4.heap.size (rtArr (actR kind g) (.slice none 0 0) (.slice none 0 0))) = w5 from HW5.out.symm]
    have hb5 : Below w4.heap.size w4 w5 := by rw [HW5.out]; exact below_setRow ((Below.refl _ w4).alloc (Nat.le_refl _) _) (Nat.le_refl _) (by simp) _
    have hm5 := hM4.step hb5
    have HI := Lib.hid (ti_zero (Q := fun b => m ≤ b ∧ b ≠ gr ∧ b ≠ gc ∧ b ≠ gl) hm5 (actP_bs kind g).1 (actP_bs kind g).2.1 (by have := HLT.out; have := hgt; exact ⟨by omega, by omega, by omega, by omega⟩) ⟨fun h => h.2.1 rfl, fun h => h.2.2.1 rfl, fun h => h.2.2.2 rfl⟩)
    have H5 := Lib.hid (show Below m w w5 from H3.out.trans ((hb4.trans (hb5.mono hb4.size)).mono (by have := HLT.out; omega)))
    have HAL := Lib.hid (show Al sz xs (actP kind g) by rw [HX.out]; exact filled_al HS.out HA.out HLEN.out kind g)
    have HLF := Lib.hid (actP_left kind g sz)
    have HST := Lib.hid (actP_bs kind g).2.2
    generalize actP kind g = P0 at HI HAL HLF HST
    clear hgt hM4 hb4 hb5 hm5 HT HW5 H3 HA3 HB3 H2 H1
    go_wp2_with fail
    go_loopw [12] (fun vi wr => ∃ (k : Nat) (P : Pt) (ys : List Int), k ≤ 3 * sz + 10 ∧ vi = .int .i64 k ∧ Hid (TI wr (fun b => m ≤ b ∧ b ≠ gr ∧ b ≠ gc ∧ b ≠ gl) gt gr gc gl (sz + 3) [] sz ys (sz + 3 + k) P) ∧ Hid (P.steps = k) ∧ Hid (Al sz ys P) ∧ Hid (left sz P + k ≤ 3 * sz + 10) ∧ Hid (Below m w wr)) (fun vi _ => 3 * sz + 10 - (intOf vi).toNat)
    case atStart => exact ⟨0, P0, xs, by omega, rfl, HI, HST, HAL, Lib.hid (by have := HLF.out; omega), H5⟩
    case round =>
      rcases hrel with ⟨k, P, ys, hk, rfl, K1, K2, K3, K4, K5⟩
      have HDN := Lib.hid (done_any K1.out)
      cases hd : P.d with
      | some aa =>
        have hk2 : k < 3 * sz + 10 := by
          have h4 := K4.out
          have : left sz P ≠ 0 := fun h => by rw [left_zero h] at hd; cases hd
          omega
        have HSP := Lib.hid (step_any K1.out aa hd (by have := K2.out; omega) (by omega))
        have HAS := Lib.hid (alone_step K3.out aa hd)
        have hst : (acc sz ys P.up aa).2.steps = k + 1 := by rw [acc_steps]; show P.steps + 1 = _; rw [K2.out]
        have HST2 := Lib.hid hst
        have hlt : (k : Int) < 3 * sz + 10 := by omega
        obtain ⟨s1, s2, s3, s4⟩ := K1.out.size
        have HSS := Lib.hid (show gr < wr.heap.size ∧ gc < wr.heap.size ∧ gl < wr.heap.size from ⟨s2, s3, s4⟩)
        generalize acc sz ys P.up aa = r at HSP HAS HST2
        obtain ⟨ys', P'⟩ := r
        have HST2 : Hid (P'.steps = k + 1) := HST2
        have HSP2 : Hid (Calls Try.prog 13 #[.pointer (some ⟨gt, 0, none⟩)] wr fun e w' => e = .returned (.bool true) ∧ (TI w' (fun b => m ≤ b ∧ b ≠ gr ∧ b ≠ gc ∧ b ≠ gl) gt gr gc gl (sz + 3) [] sz ys' (sz + 3 + (k + 1)) P' ∧ Below m w w')) := Lib.hid (HSP.out.mono (by
          rintro e w' ⟨rfl, h1, L, h2, h3⟩
          refine ⟨rfl, h1.mono ?_ ⟨fun h => h.2.1 rfl, fun h => h.2.2.1 rfl, fun h => h.2.2.2 rfl⟩, K5.out.trans (h2.low (by have := HM.out; have := K5.out.size; omega) ?_)⟩
          · intro b hb
            rcases hb with hb | hb
            · exact hb.1
            · have := HSS.out
              have := K5.out.size
              have := HM.out
              exact ⟨by omega, by omega, by omega, by omega⟩
          · intro b hb
            have := HLT.out
            rcases h3 b hb with h | h | h
            · omega
            · omega
            · exact h.1))
        clear hst s1 s2 s3 s4 hd HSP HDN
        go_wp2_with (first | (go_at_call 13; refine HSP2.out.mono ?_; rintro e w6 ⟨rfl, hI6, hB6⟩) | (go_at_call 15; refine (steps_at hI6 HST2.out).mono ?_; rintro e w7 ⟨rfl, rfl⟩))
        exact ⟨⟨k + 1, P', ys', by omega, by go_num, Lib.hid hI6, HST2, Lib.hid HAS.out.1, Lib.hid (by have h1 := HAS.out.2; have h2 := K4.out; show left sz P' + (k + 1) ≤ _; have h3 : left sz P' < left sz P := h1; omega), Lib.hid hB6⟩, by simp [intOf]; omega⟩
      | none =>
        have HSD := Lib.hid (step_done K1.out hd)
        have hdn : P.d.isNone = true := by rw [hd]; rfl
        rw [hdn] at HDN
        clear hdn hd
        by_cases hk2 : k < 3 * sz + 10
        · have hlt : (k : Int) < 3 * sz + 10 := by omega
          go_wp2_with (first | (go_at_call 13; refine HSD.out.mono ?_; rintro e w6 ⟨rfl, rfl⟩) | (go_at_call 10; refine HDN.out.mono ?_; rintro e w7 ⟨rfl, rfl⟩) | (go_at_call 16; refine (alive14 _).mono ?_; rintro e w4 ⟨rfl, hb4⟩))
          go_ret
          exact ⟨rfl, K5.out.trans (hb4.mono (by have := K5.out.size; have := HM.out; omega))⟩
        · have hlt : ¬ (k : Int) < 3 * sz + 10 := by omega
          go_wp2_with (first | (go_at_call 13; refine HSD.out.mono ?_; rintro e w6 ⟨rfl, rfl⟩) | (go_at_call 10; refine HDN.out.mono ?_; rintro e w7 ⟨rfl, rfl⟩) | (go_at_call 16; refine (alive14 _).mono ?_; rintro e w4 ⟨rfl, hb4⟩))
          go_ret
          exact ⟨rfl, K5.out.trans (hb4.mono (by have := K5.out.size; have := HM.out; omega))⟩
end Go.Proofs.Ythnhjhlpimgkiaa

/-
  Chapter 27, the reference's model: copied.
-/
import Derived.Test.YtkfpnppppmccdaaDoorRmd27
namespace Go.Proofs.YtkfpnppppmccdaaDoor
open Go.RowKit
theorem Tryd.infoGz : (Tryd.prog.info? 77).map (fun i => (i.zero, i.size, i.bytes)) = some (some (.agg #[.int .i64 0, .int .i64 0, .int .i64 0, .int .i64 0, .int .i64 0, .int .i64 0, .int .i64 0, .int .i64 0, .int .i64 0, .int .i64 0, .slice none 0 0, .bool false, .bool false, .bool false, .bool false, .bool false]), 16, 120) := by kernel_rfl
theorem Tryd.infoRm (v0 v1 v2 v3 v4 : Value) : (Tryd.prog.info? 47).map (·.size) = some (#[v0, v1, v2, v3, v4] : Array Value).size := by kernel_rfl
theorem own_le {w : World} {base base' : Nat} {e : TypeId} {size n c : Nat} {A : Option Addr} {xs : List Value} (h : Own w base e size A n c xs) (hb : base' ≤ base) : Own w base' e size A n c xs := own_base h hb
/-- What lies there behind the append. -/
theorem cp_mid {w W w2 : World} {q n c cx nf fc : Nat} {F A X : Option Addr} {gs ho ow : Int} {r : Array Value} {xs : List Value} {o : Obj} (hb : Below w.heap.size w W) (hz : W.heap.size = q + 1 + 1) (hq : q = w.heap.size) (h1 : Blk W q 47 #[.slice F nf fc, .int .i64 gs, .slice A n c, .int .i64 ho, .int .i64 ow]) (h2 : Blk W (q + 1) 47 r)
    (hown : Own w2 w.heap.size 77 16 X n cx xs) (hg : (W.alloc o).grownBy w2 (ob (some ⟨q + 1 + 1, 0, none⟩))) (hat : ob X = ob (some ⟨q + 1 + 1, 0, none⟩) ∨ ob X = some (W.alloc o).heap.size) :
    w2.cell? ⟨q, 2, none⟩ = some (.slice A n c) ∧ w2.frozen? ⟨q, 2, none⟩ = false ∧ (∃ RV : Array Value, RV = #[.slice F nf fc, .int .i64 gs, .slice X n cx, .int .i64 ho, .int .i64 ow] ∧ (Tryd.prog.info? 47).map (·.size) = some RV.size ∧ 5 = RV.size ∧ RV.all (·.oneCell') = true ∧ Blk (w2.setCell ⟨q, 2, none⟩ (.slice X n cx)) q 47 RV) ∧ Blk (w2.setCell ⟨q, 2, none⟩ (.slice X n cx)) (q + 1) 47 r ∧
      Below w.heap.size w (w2.setCell ⟨q, 2, none⟩ (.slice X n cx)) ∧ Own (w2.setCell ⟨q, 2, none⟩ (.slice X n cx)) w.heap.size 77 16 X n cx xs ∧ ∀ k, ob X = some k → q + 1 < k := by
  have hx : ∀ k, ob X = some k → q + 1 < k := by
    intro k hk
    rcases hat with e | e
    · rw [e] at hk
      have : q + 1 + 1 = k := by simpa [ob] using hk
      omega
    · rw [e, World.size_alloc] at hk
      injection hk with hk
      omega
  have hg0 : ∀ k, k < W.heap.size → w2.heap[k]? = W.heap[k]? := fun k hk => (hg.block k (by rw [World.size_alloc]; omega) (by
    intro e
    have : k = q + 1 + 1 := by simpa [ob] using e
    omega)).trans (Below.heap_alloc W o k hk)
  have g1 : Blk w2 q 47 #[.slice F nf fc, .int .i64 gs, .slice A n c, .int .i64 ho, .int .i64 ow] := (hg0 q h1.lt).trans h1
  have g2 : Blk w2 (q + 1) 47 r := (hg0 (q + 1) h2.lt).trans h2
  have hsz := hg.size
  rw [World.size_alloc] at hsz
  have hb2 : Below w.heap.size w w2 := ⟨hg.os.trans hb.os, hg.tape.trans hb.tape, hg.output.trans hb.output, by have := hb.size; omega, fun k hk => (hg0 k (by have := hb.size; omega)).trans (hb.block k hk)⟩
  exact ⟨g1.cell 2, g1.frozen 2, ⟨_, rfl, Tryd.infoRm _ _ _ _ _, rfl, by simp [Value.oneCell'], g1.set_ 2 _⟩, g2.far (p := ⟨q, 2, none⟩) (by show q + 1 ≠ q; omega) _, hb2.setCell (p := ⟨q, 2, none⟩) (by rw [hq]; exact Nat.le_refl _) _, hown.setCell ⟨q, 2, none⟩ _ (by
    cases hX : ob X with
    | none => exact .inl rfl
    | some k =>
      have := hx k hX
      refine .inr ?_
      intro e
      injection e with e
      simp only at e
      omega), hx⟩
set_option maxRecDepth 10000 in
set_option maxHeartbeats 1000000 in
theorem copied_any {w : World} {F : Option Addr} {fs : List Fn} {M : Md} {A : Option Addr} {rs : List Pg} {n c : Nat} {nf fc : Nat} {gs ho ow : Int} (h : RIs w F fs M A rs) (hn : n = rs.length) :
    Calls Tryd.prog 57 #[.agg #[.slice F nf fc, .int .i64 gs, .slice A n c, .int .i64 ho, .int .i64 ow]] w fun e w' => ∃ A' c', e = .returned (.agg #[.slice F nf fc, .int .i64 gs, .slice A' n c', .int .i64 ho, .int .i64 ow]) ∧ Own w' w.heap.size 77 16 A' n c' (rs.flatMap pgVals) ∧ Below w.heap.size w w' := by
  have hfew := h.few
  have hn100 : n ≤ 100 := by omega
  have HLN := Lib.hid (show (rs.flatMap pgVals).length = n * 16 by rw [hn]; exact flat_length pgVals_len rs)
  have HRW := Lib.hid (fun (V : World) (hV : Below w.heap.size w V) => (h.row.below hV))
  have H1C := Lib.hid (pgs_one rs)
  obtain ⟨i0, hi0, hz0, hz1, hz2⟩ := info_parts Tryd.infoGz
  have HI := Lib.hid hi0
  have HZ0 := Lib.hid hz0
  have HZ1 := Lib.hid hz1
  have HZ2 := Lib.hid hz2
  clear h hn hfew hi0 hz0 hz1 hz2
  go_enter Tryd.func57, Tryd.ntmps57
  obtain ⟨q, HQ⟩ : ∃ q, Hid (q = w.heap.size) := ⟨_, Lib.hid rfl⟩
  obtain ⟨W, HW⟩ : ∃ W, Hid (W = (w.alloc (.cells #[.slice F nf fc, .int .i64 gs, .slice A n c, .int .i64 ho, .int .i64 ow] 47)).alloc (.cells #[.slice none 0 0, .int .i64 0, .slice none 0 0, .int .i64 0, .int .i64 0] 47)) := ⟨_, Lib.hid rfl⟩
  have HBW := Lib.hid (show Below w.heap.size w W by rw [HW.out]; exact below2 w _ _)
  have HQ1 := Lib.hid (show Blk W q 47 #[.slice F nf fc, .int .i64 gs, .slice A n c, .int .i64 ho, .int .i64 ow] by rw [HW.out, HQ.out]; exact (Blk.new w _ _).alloc _)
  have HQ2 := Lib.hid (show Blk W (q + 1) 47 #[.slice none 0 0, .int .i64 0, .slice none 0 0, .int .i64 0, .int .i64 0] by rw [HW.out, HQ.out]; exact heap_alloc2_new w _ _)
  have HZW := Lib.hid (show W.heap.size = q + 1 + 1 by rw [HW.out, HQ.out]; simp)
  have HOE := Lib.hid (show Own (W.alloc (.cells #[] 77)) w.heap.size 77 16 (some ⟨q + 1 + 1, 0, none⟩) 0 0 [] by
    rw [← HZW.out]
    exact World.ownsRow_made W #[] 0 HBW.out.size (Nat.zero_le _) (by simp))
  go_wp2_with (first | (at_builtin; rw [← HW.out, ← HQ.out]; go_must (refine wpList_append_row _ rfl _ _ 45 rfl w.heap.size 77 i0 _ 16 120 Tryd.underlying45 HI.out HZ0.out HZ1.out HZ2.out rfl (by decide) _ 0 0 [] rfl HOE.out A n c w.heap.size (rs.flatMap pgVals) rfl HLN.out (HRW.out _ (HBW.out.alloc HBW.out.size _)) H1C.out (by unfold maxLen; omega) (by omega) (by rw [World.size_alloc]; have := HBW.out.size; omega) ?_); intro X cx w2 hown hgrow hat; simp only [Nat.zero_add, List.nil_append] at hown ⊢; obtain ⟨c2, f2, ⟨RV, hrv, hri, hr5, hr1, hq5⟩, hq6, hb5, ho5, hx5⟩ := cp_mid HBW.out HZW.out HQ.out HQ1.out HQ2.out hown hgrow hat; obtain ⟨w5, HW5⟩ : ∃ V, Hid (V = w2.setCell ⟨q, 2, none⟩ (.slice X n cx)) := ⟨_, Lib.hid rfl⟩; rw [← HW5.out] at hq5 hq6 hb5 ho5; have HRV := Lib.hid hrv; have HRI := Lib.hid hri; have HR5 := Lib.hid hr5; have HR1 := Lib.hid hr1; have HQ5 := Lib.hid hq5; have HQ6 := Lib.hid hq6; have HB5 := Lib.hid hb5; have HO5 := Lib.hid ho5; have HX5 := Lib.hid hx5; clear hown hgrow hat hq5 hq6 hb5 ho5 hx5 hrv hri hr5 hr1) | (rw [← HW5.out]; refine wpList_load_row rfl 47 _ rfl q rfl 47 RV (0, 0) _ HQ5.out Tryd.underlying47 rfl HRI.out ?_) | (refine wpList_store_row rfl 47 _ _ rfl (q + 1) RV rfl rfl 47 _ HQ6.out HRI.out HR5.out HR1.out ?_))
  refine bodyPost_ret (v := .agg RV) (results_cell_row Tryd.results57 _ _ (q + 1) 47 RV (0, 0) _ rfl (HQ6.out.setRow _) Tryd.underlying47 rfl HRI.out) rfl ⟨X, cx, by rw [HRV.out], ?_, below_setRow HB5.out (by rw [HQ.out]; omega) HB5.out.size _⟩
  refine Own.kept HO5.out (grown_setRow _ _ _) ?_
  cases hX : ob X with
  | none => exact .inl rfl
  | some k =>
    refine .inr fun e => ?_
    have := HX5.out k hX
    injection e with e
    omega
end Go.Proofs.YtkfpnppppmccdaaDoor

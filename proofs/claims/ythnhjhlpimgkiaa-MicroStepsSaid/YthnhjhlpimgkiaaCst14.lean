/-
  Chapter 2, as chapter 14 uses it: cells.Store, Cas, New, Copy.
-/
import Derived.Test.YthnhjhlpimgkiaaCel14
namespace Go.Proofs.Ythnhjhlpimgkiaa
open Go.RowKit
theorem CellsIs.put {w : World} {gc gl kc cnt : Nat} {ex : List Value} {xs : List Int} (h : CellsIs w gc gl kc ex xs cnt) (i : Nat) (hi : i < xs.length) (y : Int) : CellsIs (w.setCell ⟨gl, i, none⟩ (.int .i64 y)) gc gl kc ex (xs.set i y) cnt := by
  refine ⟨by simpa using h.head.far (p := ⟨gl, i, none⟩) h.ne _, ?_, h.ne, h.small, by simpa using h.size⟩
  have := h.row.set_ i (.int .i64 y)
  simpa [ints, List.map_set, List.set_append, hi] using this
theorem store_any {w : World} {gc gl kc cnt : Nat} {ex : List Value} {xs : List Int} (h : CellsIs w gc gl kc ex xs cnt) (i : Nat) (hi : i < xs.length) (y : Int) (hc : cnt < 1000000) :
    Calls Try.prog 32 #[.pointer (some ⟨gc, 0, none⟩), .int .i64 i, .int .i64 y] w fun e w' => e = .returned (.tuple #[]) ∧ CellsIs w' gc gl kc ex (xs.set i y) (cnt + 1) ∧ Mv [gc, gl] w w' := by
  have hmf : ∀ (fn : Go.Fn) (first cap : Array Value) (w : World), (Instr.makeFunc fn first cap).run Try.prog w = .ok (.func fn first cap) w := fun _ _ _ _ => rfl
  have hgc := h.head.lt
  have hgl := h.row.lt
  obtain ⟨wa, HW⟩ : ∃ wa, Hid (wa = w.alloc (.cells #[.int .i64 y] 2)) := ⟨_, rfl⟩
  have h1 : CellsIs wa gc gl kc ex xs cnt := by rw [HW.out]; exact h.below ((Below.refl _ w).alloc (Nat.le_refl _) _)
  have hB : Blk wa w.heap.size 2 #[.int .i64 y] := by rw [HW.out]; exact Blk.new _ _ _
  have HO := Lib.hid (onS_any h1 i hi (.pointer (some ⟨w.heap.size, 0, none⟩)) (fun w' => w' = wa.setCell ⟨gl, i, none⟩ (.int .i64 y))
    (fun w' e => ⟨xs.set i y, by rw [e]; exact h1.put i hi y⟩)
    (store1_any ⟨gl, i, none⟩ ⟨w.heap.size, 0, none⟩ xs[i] y wa (h1.cell i hi) (one_ hB).1 (h1.row.frozen i)))
  have HR : Hid (∀ w1, w1 = (wa.setCell ⟨gl, i, none⟩ (.int .i64 y)).setCell ⟨gc, 1, none⟩ (.int .i64 ((cnt + 1 : Nat) : Int)) → CellsIs w1 gc gl kc ex (xs.set i y) (cnt + 1) ∧ Mv [gc, gl] w w1) := by
    intro w1 e
    refine ⟨by rw [e]; exact (h1.put i hi y).counted hc, ?_⟩
    rw [e, HW.out]
    exact (((Mv.refl [gc, gl] w).alloc _).set _ _ (by simp)).set _ _ (by simp)
  clear h h1 hB
  go_enter Try.func32, Try.ntmps32
  go_wp2_with (rw [← HW.out]; go_at_call 47; refine HO.out.mono ?_; rintro e w1 ⟨rfl, w2, rfl, h3⟩; obtain ⟨hC, hM⟩ := HR.out w1 h3; clear HR HO h3)
  go_end0
  exact ⟨rfl, hC, hM⟩
theorem cas_any {w : World} {gc gl kc cnt : Nat} {ex : List Value} {xs : List Int} (h : CellsIs w gc gl kc ex xs cnt) (i : Nat) (hi : i < xs.length) (o y : Int) (hc : cnt < 1000000) :
    Calls Try.prog 57 #[.pointer (some ⟨gc, 0, none⟩), .int .i64 i, .int .i64 o, .int .i64 y] w fun e w' => e = .returned (.bool (decide (xs[i] = o))) ∧ CellsIs w' gc gl kc ex (if xs[i] = o then xs.set i y else xs) (cnt + 1) ∧ Mv [gc, gl] w w' := by
  have hmf : ∀ (fn : Go.Fn) (first cap : Array Value) (w : World), (Instr.makeFunc fn first cap).run Try.prog w = .ok (.func fn first cap) w := fun _ _ _ _ => rfl
  have hgc := h.head.lt
  have hgl := h.row.lt
  obtain ⟨m, HM⟩ : ∃ m, Hid (m = w.heap.size) := ⟨_, rfl⟩
  rw [← HM.out] at hgc hgl
  obtain ⟨wa, HW⟩ : ∃ wa, Hid (wa = ((w.alloc (.cells #[.int .i64 o] 2)).alloc (.cells #[.int .i64 y] 2)).alloc (.cells #[.bool false] 4)) := ⟨_, rfl⟩
  have h1 : CellsIs wa gc gl kc ex xs cnt := by rw [HW.out]; exact h.below ((((Below.refl _ w).alloc (Nat.le_refl _) _).alloc (by simp) _).alloc (by simp; omega) _)
  have hB0 : Blk wa m 2 #[.int .i64 o] := by rw [HW.out, HM.out]; exact ((Blk.new _ _ _).alloc _).alloc _
  have hB1 : Blk wa (m + 1) 2 #[.int .i64 y] := by
    rw [HW.out, HM.out]
    have := Blk.new (w.alloc (.cells #[.int .i64 o] 2)) 2 #[.int .i64 y]
    rw [World.size_alloc] at this
    exact this.alloc _
  have hB2 : Blk wa (m + 2) 4 #[.bool false] := by
    rw [HW.out, HM.out]
    have := Blk.new ((w.alloc (.cells #[.int .i64 o] 2)).alloc (.cells #[.int .i64 y] 2)) 4 #[.bool false]
    simpa using this
  have hMw : Mv [gc, gl] w wa := by rw [HW.out]; exact (((Mv.refl [gc, gl] w).alloc _).alloc _).alloc _
  have HO := Lib.hid (onC_any h1 i hi (.pointer (some ⟨m, 0, none⟩)) (.pointer (some ⟨m + 2, 0, none⟩)) (.pointer (some ⟨m + 1, 0, none⟩))
    (fun w' => CellsIs w' gc gl kc ex (if xs[i] = o then xs.set i y else xs) cnt ∧ Mv [gc, gl] w w' ∧ Blk w' (m + 2) 4 #[.bool (decide (xs[i] = o))])
    (fun w' e => ⟨_, e.1⟩)
    ((cas1_any ⟨gl, i, none⟩ ⟨m, 0, none⟩ ⟨m + 2, 0, none⟩ ⟨m + 1, 0, none⟩ xs[i] o y false wa (h1.cell i hi) (one_ hB0).1 (one_ hB2).1 (one_ hB1).1 (h1.row.frozen i) (one_ hB2).2 (by intro e; injection e with e; omega) (by simp)).mono (by
      rintro e w' ⟨rfl, rfl⟩
      refine ⟨rfl, ?_⟩
      have k : ∀ v, CellsIs (wa.setCell ⟨m + 2, 0, none⟩ v).drew gc gl kc ex xs cnt := fun v => ⟨(h1.head.far (by simp; omega) v).drew, (h1.row.far (by simp; omega) v).drew, h1.ne, h1.small, h1.size⟩
      have k2 : ∀ b, Blk (wa.setCell ⟨m + 2, 0, none⟩ (.bool b)).drew (m + 2) 4 #[.bool b] := fun b => by
        have := (hB2.set_ 0 (.bool b)).drew
        simpa using this
      have k3 : ∀ v, Mv [gc, gl] w (wa.setCell ⟨m + 2, 0, none⟩ v).drew := fun v => (hMw.set _ _ (by rw [← HM.out]; simp)).drew
      split
      · rename_i hx
        refine ⟨(k _).put i hi y, (k3 _).set _ _ (by simp), ?_⟩
        simpa [hx] using (k2 true).far (p := ⟨gl, i, none⟩) (show m + 2 ≠ gl by omega) (.int .i64 y)
      · rename_i hx
        refine ⟨k _, k3 _, ?_⟩
        simpa [hx] using k2 false)))
  have HR : Hid (∀ w1 w2, (CellsIs w2 gc gl kc ex (if xs[i] = o then xs.set i y else xs) cnt ∧ Mv [gc, gl] w w2 ∧ Blk w2 (m + 2) 4 #[.bool (decide (xs[i] = o))]) → w1 = w2.setCell ⟨gc, 1, none⟩ (.int .i64 ((cnt + 1 : Nat) : Int)) → CellsIs w1 gc gl kc ex (if xs[i] = o then xs.set i y else xs) (cnt + 1) ∧ Mv [gc, gl] w w1 ∧ Blk w1 (m + 2) 4 #[.bool (decide (xs[i] = o))]) := by
    rintro w1 w2 ⟨a, b, c⟩ e
    rw [e]
    exact ⟨a.counted hc, b.set _ _ (by simp), c.far (by simp; omega) _⟩
  obtain ⟨B, HB⟩ : ∃ B : Bool, Hid (B = decide (xs[i] = o)) := ⟨_, Lib.hid rfl⟩
  obtain ⟨ys, HY⟩ : ∃ ys : List Int, Hid (ys = if xs[i] = o then xs.set i y else xs) := ⟨_, Lib.hid rfl⟩
  rw [← HB.out, ← HY.out]
  rw [← HB.out, ← HY.out] at HO HR
  clear h h1 hB0 hB1 hB2 hMw
  go_enter Try.func57, Try.ntmps57
  go_wp2_with (rw [← HW.out, ← HM.out]; go_at_call 47; refine HO.out.mono ?_; rintro e w1 ⟨rfl, w2, h2, h3⟩; obtain ⟨hC, hM, hB⟩ := HR.out w1 w2 h2 h3; obtain ⟨c1, c2⟩ := one_ hB; clear HR HO h3 h2)
  have hz := World.cell?_setCell_same w1 ⟨m + 2, 0, none⟩ (.bool B) c1
  try simp only [Exit.inBlock, Exit.then]
  refine bodyPost_ret (v := .bool B) (by simp [results, Try.results57, go_sem, hz]) rfl ?_
  refine ⟨rfl, ⟨hC.head.far (by simp; omega) _, hC.row.far (by simp; omega) _, hC.ne, hC.small, hC.size⟩, hM.set _ _ (by rw [← HM.out]; right; simp; omega)⟩
end Go.Proofs.Ythnhjhlpimgkiaa

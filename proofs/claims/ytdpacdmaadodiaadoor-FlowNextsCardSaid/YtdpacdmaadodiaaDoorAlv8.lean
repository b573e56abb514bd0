/-
  Chapter 8: the law's alive. Conditions: the table is laid.
-/
import Derived.Test.YtdpacdmaadodiaaDoorGap8
import Derived.Test.YtdpacdmaadodiaaDoorSameB
import Derived.Test.YtdpacdmaadodiaaDoorLit8
namespace Go.Proofs.YtdpacdmaadodiaaDoor
open Go.RowKit
def fnJump : Fn := ⟨[⟨0, 0, 0, 0, 0⟩, ⟨6, 0, 0, 0, 1⟩], []⟩
def fnExit : Fn := ⟨[⟨0, 0, 0, 0, 0⟩, ⟨0, 0, 0, 0, 0⟩, ⟨14, 0, 0, 0, 0⟩], []⟩
theorem fn_lit {w : World} {B g : Nat} {cs : Array Value} (l : List Ins) (h : Blk w g 46 cs) (hg : g < B) (hl : l.length ≤ 70) (hc : cs.toList = l.flatMap insVals) (hi : ∀ i ∈ l, InsOk i) : FnOk w B ⟨some ⟨g, 0, none⟩, l.length, l.length, none, 0, 0⟩ ⟨l, []⟩ :=
  ⟨rfl, rfl, by rw [← hc]; exact row_of_blk h hg, .nil, by simp only [maxLen]; omega, by simp [maxLen], hi⟩
theorem blk2 (w : World) (t1 t2 : TypeId) (c1 c2 : Array Value) (W : World) (hW : W = (w.alloc (.cells c1 t1)).alloc (.cells c2 t2)) : Blk W w.heap.size t1 c1 ∧ Blk W (w.heap.size + 1) t2 c2 ∧ Below w.heap.size w W := by
  have b2 := Blk.new (w.alloc (.cells c1 t1)) t2 c2
  rw [World.size_alloc] at b2
  rw [hW]
  exact ⟨(Blk.new w t1 c1).alloc _, b2, ((Below.refl _ w).alloc (Nat.le_refl _) _).alloc (by simp) _⟩
set_option maxRecDepth 10000 in
set_option maxHeartbeats 4000000 in
theorem alive08 (w : World) (hT : Tab w) : Calls Tryd.prog 8 #[] w fun e w' => e = .returned (.bool true) ∧ Below w.heap.size w w' := by
  have HT := Lib.hid hT
  have E1 := Lib.hid (show gapG 2 (nxN fnJump.code) (openB fnJump.safe) = (0, false) by decide +kernel)
  have E2 := Lib.hid (show gapG 3 (nxN fnExit.code) (openB fnExit.safe) = (2, true) by decide +kernel)
  have E3 := Lib.hid (show nxZ fnJump.code 0 = [1] by decide +kernel)
  clear hT
  go_enter Tryd.func8, Tryd.ntmps8
  go_upto_region 2 with (fail)
  generalize hW : (w.alloc _).alloc _ = W
  obtain ⟨b1, b2, hB⟩ := blk2 w _ _ _ _ W hW.symm
  have hsz : w.heap.size + 1 < W.heap.size := b2.lt
  have hok : ∀ i ∈ fnJump.code, InsOk i := by
    intro i hi
    simp only [fnJump, List.mem_cons, List.not_mem_nil, or_false] at hi
    rcases hi with rfl | rfl <;> simp [InsOk, I64]
  have HF := Lib.hid (fn_lit fnJump.code b1 (show w.heap.size < W.heap.size by omega) (by decide) rfl hok)
  have HT1 := Lib.hid (HT.out.step hB)
  have HB := Lib.hid hB
  have HB2 := Lib.hid b2
  have p0 : W.cell? ⟨w.heap.size + 1, 0, none⟩ = some (.slice (some ⟨w.heap.size, 0, none⟩) 2 2) := (b2.cell 0).trans rfl
  have p1 : W.cell? ⟨w.heap.size + 1, 1, none⟩ = some (.slice none 0 0) := (b2.cell 1).trans rfl
  have HG1 := Lib.hid (gap_any HT1.out HF.out (by decide))
  have e0 : twoOf (gapG fnJump.code.length (nxN fnJump.code) (openB fnJump.safe)) = .tuple #[.int .i64 0, .bool false] := by rw [show fnJump.code.length = 2 from rfl, E1.out]; rfl
  rw [show (⟨fnJump.code, []⟩ : Fn) = fnJump from rfl, e0] at HG1
  clear b1 b2 hB hok hW e0
  go_upto_region 3 with (go_at_call 9; refine HG1.out.mono ?_; rintro e W1 ⟨rfl, hb1⟩; have HB1 := Lib.hid hb1; clear hb1)
  obtain ⟨W2, HW2⟩ : ∃ V, Hid (V = W1.alloc (.cells #[.int .i64 0, .int .i64 0, .int .i64 0, .int .i64 0, .int .i64 0, .int .i64 0, .int .i64 0, .int .i64 0, .int .i64 0, .int .i64 0, .int .i64 14, .int .i64 0, .int .i64 0, .int .i64 0, .int .i64 0] 46)) := ⟨_, Lib.hid rfl⟩
  have hB2 : Below W1.heap.size W1 W2 := by rw [HW2.out]; exact (Below.refl _ W1).alloc (Nat.le_refl _) _
  have b3 : Blk W2 W1.heap.size 46 #[.int .i64 0, .int .i64 0, .int .i64 0, .int .i64 0, .int .i64 0, .int .i64 0, .int .i64 0, .int .i64 0, .int .i64 0, .int .i64 0, .int .i64 14, .int .i64 0, .int .i64 0, .int .i64 0, .int .i64 0] := by rw [HW2.out]; exact Blk.new W1 _ _
  have hok2 : ∀ i ∈ fnExit.code, InsOk i := by
    intro i hi
    simp only [fnExit, List.mem_cons, List.not_mem_nil, or_false] at hi
    rcases hi with rfl | rfl | rfl <;> simp [InsOk, I64]
  have HBa := Lib.hid (HB1.out.trans (hB2.mono HB1.out.size))
  have HG2 := Lib.hid (gap_any (HT1.out.step HBa.out) (fn_lit fnExit.code b3 b3.lt (by decide) rfl hok2) (by decide))
  have e0 : twoOf (gapG fnExit.code.length (nxN fnExit.code) (openB fnExit.safe)) = .tuple #[.int .i64 2, .bool true] := by rw [show fnExit.code.length = 3 from rfl, E2.out]; rfl
  rw [show (⟨fnExit.code, []⟩ : Fn) = fnExit from rfl, e0, HW2.out] at HG2
  clear b3 hok2 e0 p0 p1
  go_upto_region 4 with (go_at_call 9; refine HG2.out.mono ?_; rintro e W3 ⟨rfl, hb3⟩; have HB3 := Lib.hid (show Below W2.heap.size W2 W3 by rw [HW2.out]; exact hb3); clear hb3)
  have HBb := Lib.hid (HBa.out.trans (HB3.out.mono HBa.out.size))
  have HBL := HB2.out.below HBb.out HB2.out.lt
  have p0 : W3.cell? ⟨w.heap.size + 1, 0, none⟩ = some (.slice (some ⟨w.heap.size, 0, none⟩) 2 2) := (HBL.cell 0).trans rfl
  have p1 : W3.cell? ⟨w.heap.size + 1, 1, none⟩ = some (.slice none 0 0) := (HBL.cell 1).trans rfl
  have HNX := Lib.hid (next_any (HT1.out.step HBb.out) ((HF.out.below HBb.out).more HBb.out.size) (by decide) 0)
  rw [show (⟨fnJump.code, []⟩ : Fn) = fnJump from rfl, E3.out] at HNX
  clear HBL
  go_wp2_with (first | (go_at_call 16; refine HNX.out.mono ?_; rintro e W4 ⟨A, cl, rfl, ho4, hb4⟩; have HO4 := Lib.hid ho4; have HB4 := Lib.hid hb4; clear ho4 hb4) | (go_at_call 18; refine (same_any _ _ _ _ _ _ (upI [1]) [1] _ rfl rfl (by decide) (by decide) (HO4.out.alloc _).row (row_of_blk (Blk.new W4 3 #[.int .i64 1]) (by simp))).mono ?_; rintro e W5 ⟨rfl, hb5⟩; have HB5 := Lib.hid hb5; clear hb5))
  go_ret
  have HB6 := HB.out.trans (((HBb.out.trans (HB4.out.mono HBb.out.size))).mono HB.out.size)
  exact ⟨rfl, (HB6.alloc HB6.size _).trans (HB5.out.mono (by rw [World.size_alloc]; have := HB6.size; omega))⟩
end Go.Proofs.YtdpacdmaadodiaaDoor

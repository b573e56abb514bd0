/-
  Chapter 7: contract of the law's own 'alive'. Condition: the table is laid.
-/
import Derived.Test.YthcbceaeobnmgaaDoorPrn7
import Derived.Test.YthcbceaeobnmgaaDoorLight9
namespace Go.Proofs.YthcbceaeobnmgaaDoor
open Go.RowKit
def prog1 : List Fn := [⟨[⟨14, 0, 0, 0, 0⟩], [false]⟩]
theorem prog1_ok : printOk prog1 = true := by kernel_rfl
theorem prog1_b : progB prog1 = [1, 1, 14, 0, 0, 0, 0, 1, 0] := by kernel_rfl
theorem fn1_ok {w : World} {B g1 g2 : Nat} (h1 : Blk w g1 33 #[.int .i64 14, .int .i64 0, .int .i64 0, .int .i64 0, .int .i64 0]) (h2 : Blk w g2 4 #[.bool false]) (b1 : g1 < B) (b2 : g2 < B) :
    FnOk w B ⟨some ⟨g1, 0, none⟩, 1, 1, some ⟨g2, 0, none⟩, 1, 1⟩ ⟨[⟨14, 0, 0, 0, 0⟩], [false]⟩ :=
  ⟨rfl, rfl, row_of_blk h1 b1, row_of_blk h2 b2, by simp [maxLen], by simp [maxLen], by
    intro i hi
    simp only [List.mem_cons, List.not_mem_nil, or_false] at hi
    subst hi
    simp [InsOk, I64]⟩
theorem blk3 (w : World) (t1 t2 t3 : TypeId) (c1 c2 c3 : Array Value) (W : World) (hW : W = ((w.alloc (.cells c1 t1)).alloc (.cells c2 t2)).alloc (.cells c3 t3)) :
    Blk W w.heap.size t1 c1 ∧ Blk W (w.heap.size + 1) t2 c2 ∧ Blk W (w.heap.size + 1 + 1) t3 c3 ∧ W.heap.size = w.heap.size + 3 ∧ Below w.heap.size w W := by
  have h2 := Blk.new (w.alloc (.cells c1 t1)) t2 c2
  have h3 := Blk.new ((w.alloc (.cells c1 t1)).alloc (.cells c2 t2)) t3 c3
  rw [World.size_alloc] at h2
  rw [World.size_alloc, World.size_alloc] at h3
  subst hW
  exact ⟨((Blk.new w t1 c1).alloc _).alloc _, h2.alloc _, h3, by simp, (((Below.refl _ _).alloc (Nat.le_refl _) _).alloc (by simp) _).alloc (by simp; omega) _⟩
set_option maxHeartbeats 2000000 in
set_option maxRecDepth 100000 in
theorem alive07 (w : World) (hT : Tab w) : Calls Tryd.prog 8 #[] w fun e w' => e = .returned (.bool true) ∧ Below w.heap.size w w' := by
  have HT := Lib.hid hT
  clear hT
  go_enter Tryd.func8, Tryd.ntmps8
  go_wp2_with fail
  generalize hW : ((w.alloc _).alloc _).alloc _ = W
  obtain ⟨b1, b2, b3, hz, hB⟩ := blk3 w _ _ _ _ _ _ W hW.symm
  clear hW
  have hfn := fn1_ok (B := W.heap.size) b1 b2 (by omega) (by omega)
  have HFS := Lib.hid (aliveFns_ok hfn b3 (by omega))
  have HT2 := Lib.hid (HT.out.step hB)
  have HB := Lib.hid hB
  clear b1 b2 b3 hB hfn hz
  refine (print_any (some ⟨w.heap.size + 1 + 1, 0, none⟩) 1 prog1 W HT2.out (by simp [prog1, maxLen]) HFS.out).mono ?_
  rintro e w1 ⟨hp, hb⟩
  unfold PrintOut at hp
  rw [if_pos prog1_ok, prog1_b] at hp
  obtain ⟨A, c, rfl, hown⟩ := hp
  have HB1 := Lib.hid (HB.out.trans (hb.mono HB.out.size))
  have HR := Lib.hid hown.row
  clear hb hown
  have hcv : (convert 35 9 (.slice A 9 c)).run Tryd.prog w1 = .ok (.string (str [1, 1, 14, 0, 0, 0, 0, 1, 0])) w1 := conv_row _ _ 5 Tryd.underlying35 Tryd.underlying5 Tryd.underlying9 rfl HR.out
  have hs : (str [1, 1, 14, 0, 0, 0, 0, 1, 0]).toList = [1, 1, 14, 0, 0, 0, 0, 1, 0] := by rw [str_toList]; rfl
  generalize str [1, 1, 14, 0, 0, 0, 0, 1, 0] = sx at *
  go_wp2_with fail
  go_ret
  exact ⟨rfl, HB1.out⟩
end Go.Proofs.YthcbceaeobnmgaaDoor

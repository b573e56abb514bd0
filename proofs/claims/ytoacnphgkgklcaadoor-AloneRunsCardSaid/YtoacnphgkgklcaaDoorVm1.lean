/-
  Chapter 11: threads in memory and by value. Contracts of New, Clone.
-/
import Derived.Test.YtoacnphgkgklcaaDoorLight9
import Derived.Test.YtoacnphgkgklcaaDoorApp
import Derived.Test.YtoacnphgkgklcaaDoorSch
import Derived.Test.YtoacnphgkgklcaaDoorRowl
import Derived.Deep.DeepMust
import Derived.Lib.SliceRun
import Derived.Outline
namespace Go.Proofs.YtoacnphgkgklcaaDoor
open Go.RowKit
def frVals (f : Int × Int) : List Value := [.int .i64 f.1, .int .i64 f.2]
theorem frVals_len (f : Int × Int) : (frVals f).length = 2 := rfl
theorem frVals_one (l : List (Int × Int)) : ∀ u ∈ l.flatMap frVals, u.oneCell' = true := by
  intro u hu
  obtain ⟨i, _, hi⟩ := List.mem_flatMap.1 hu
  simp only [frVals, List.mem_cons, List.not_mem_nil, or_false] at hi
  rcases hi with rfl | rfl <;> rfl
theorem Tryd.infoFr : (Tryd.prog.info? 64).map (fun i => (i.zero, i.size, i.bytes)) = some (some (.agg #[.int .i64 0, .int .i64 0]), 2, 16) := by kernel_rfl
set_option maxHeartbeats 1000000 in
set_option maxRecDepth 100000 in
theorem frClone_any (C : Option Addr) (n c : Nat) (l : List (Int × Int)) (w : World) (hl : l.length = n) (hn : n ≤ 1000) (hr : Row w w.heap.size C (l.flatMap frVals)) :
    Calls Tryd.prog 35 #[.slice C n c] w fun e w' => ∃ A' c', e = .returned (.slice A' n c') ∧ Own w' w.heap.size 64 2 A' n c' (l.flatMap frVals) ∧ Below w.heap.size w w' := by
  have q51 : ∀ (w : World) (a : Option Addr) (n c n' c' : Nat), (binOp .eql 26 (.slice a n c) (.slice none n' c')).run Tryd.prog w = .ok (.bool a.isNone) w := fun w a n c n' c' => Lib.run_eql_slice_nil w _ _ a n c n' c' Tryd.underlying26
  obtain ⟨i0, hi, hz0, hz1, hz2⟩ := info_parts Tryd.infoFr
  cases C with
  | none =>
    have h0 : l = [] := by
      rcases hr with h | ⟨b, off, e, _⟩
      · cases l with
        | nil => rfl
        | cons a l => simp [frVals] at h
      · cases e
    subst h0
    obtain rfl : n = 0 := by simpa using hl.symm
    clear hl hr hi hz0 hz1 hz2
    go_enter Tryd.func35, Tryd.ntmps35
    go_wp2
    go_ret
    exact ⟨none, 0, rfl, Own.nil _ _ _ _, Below.refl _ _⟩
  | some q =>
    have hlen : (l.flatMap frVals).length = n * 2 := by rw [flat_length frVals_len, hl]
    have hc : ∀ j u, (l.flatMap frVals)[j]? = some u → w.cell? (q.add j) = some u := by
      rcases hr with h | ⟨b, off, e, _, h⟩
      · intro j u hu; rw [h] at hu; cases hu
      · cases e
        intro j u hu
        rw [Addr.add_lit]
        exact h j u hu
    have HC := Lib.hid hc
    have HL := Lib.hid hlen
    have H1 := Lib.hid (frVals_one l)
    have HI := Lib.hid hi
    have HZ0 := Lib.hid hz0
    have HZ1 := Lib.hid hz1
    have HZ2 := Lib.hid hz2
    clear hc hlen hl hr hi hz0 hz1 hz2
    go_enter Tryd.func35, Tryd.ntmps35
    go_wp2_with (at_builtin; refine wpList_append_own _ rfl _ _ 26 rfl w.heap.size 64 i0 _ 2 16 Tryd.underlying26 HI.out HZ0.out HZ1.out HZ2.out rfl (by decide) _ _ _ rfl (World.ownsRow_made w #[] 0 (Nat.le_refl _) (Nat.zero_le _) (by simp)) q n c (l.flatMap frVals) rfl ?qc1 ?qc2 ?qc3 ?qc4 ?qc5 ?qc6 ?_)
    case qc1 => exact HL.out
    case qc2 =>
      intro j u hj
      exact Lib.cell?_alloc_some _ (HC.out j u hj)
    case qc3 => exact H1.out
    case qc4 => rw [Nat.zero_add]; unfold maxLen; omega
    case qc5 => omega
    case qc6 => simp
    intro v' w1 hown hgrow hnil
    have hex : ∃ A' cc, v' = .slice A' n cc := by
      rcases hown.2 with ⟨hv, h0⟩ | ⟨g, cap, cur, hv, _⟩
      · exact absurd hv hnil
      · exact ⟨_, _, hv⟩
    obtain ⟨A', cc, rfl⟩ := hex
    go_wp2_with fail
    go_ret
    refine ⟨A', cc, rfl, ?_, ?_⟩
    · exact hown
    · exact ((Below.refl _ w).alloc (Nat.le_refl _) _).grown hgrow (by simp) (by intro k hk; simp [Value.ownBlock] at hk; omega)

structure Th where
  fn : Int
  pc : Int
  regs : List Int
  stack : List (Int × Int)
  done : Bool
/-- A thread's cells. -/
def thArr (t : Th) (A : Option Addr) (c : Nat) : Array Value := ([Value.int .i64 t.fn, Value.int .i64 t.pc] ++ t.regs.map (Value.int .i64) ++ [Value.slice A t.stack.length c, Value.bool t.done]).toArray
/-- A thread lies in memory below B, its stack at A. -/
structure ThOk (w : World) (B : Nat) (t : Th) (A : Option Addr) (c : Nat) : Prop where
  regs : t.regs.length = 8
  row : Row w B A (t.stack.flatMap frVals)
  len : t.stack.length ≤ c
  cap : c ≤ maxLen
theorem thArr_size {t : Th} (A : Option Addr) (c : Nat) (h : t.regs.length = 8) : (thArr t A c).size = 12 := by simp [thArr, h]
section
variable {t : Th} (A : Option Addr) (c : Nat) (h : t.regs.length = 8)
theorem thArr_0 : (thArr t A c)[0]? = some (.int .i64 t.fn) := by simp [thArr]
theorem thArr_1 : (thArr t A c)[1]? = some (.int .i64 t.pc) := by simp [thArr]
include h
theorem thArr_reg (k : Nat) (hk : k < 8) : (thArr t A c)[2 + k]? = some (.int .i64 (t.regs.getD k 0)) := by
  simp only [thArr, List.getElem?_toArray]
  rw [List.append_assoc, List.getElem?_append_right (by simp), List.getElem?_append_left (by simp; omega)]
  simp [show k < t.regs.length by omega]
theorem thArr_10 : (thArr t A c)[10]? = some (.slice A t.stack.length c) := by
  simp only [thArr, List.getElem?_toArray]
  rw [List.getElem?_append_right (by simp; omega)]
  simp [h]
theorem thArr_11 : (thArr t A c)[11]? = some (.bool t.done) := by
  simp only [thArr, List.getElem?_toArray]
  rw [List.getElem?_append_right (by simp; omega)]
  simp [h]
end
theorem own_base {w : World} {b b' : Nat} {e : TypeId} {size n c : Nat} {A : Option Addr} {xs : List Value} (h : Own w b e size A n c xs) (hb : b' ≤ b) : Own w b' e size A n c xs := by
  refine ⟨h.1, ?_⟩
  rcases h.2 with hv | ⟨g, cap, cur, hv, hbg, hr⟩
  · exact .inl hv
  · exact .inr ⟨g, cap, cur, hv, Nat.le_trans hb hbg, hr⟩
theorem thArr_set10 {t : Th} (A A' : Option Addr) (c c' : Nat) (h : t.regs.length = 8) : (thArr t A c).setIfInBounds 10 (.slice A' t.stack.length c') = thArr t A' c' := by
  unfold thArr
  rw [List.setIfInBounds_toArray]
  congr 1
  rw [List.set_append_right _ _ (by simp; omega)]
  simp [h]
theorem thArr_one (t : Th) (A : Option Addr) (c : Nat) : (thArr t A c).all (·.oneCell') = true := by
  rw [Array.all_eq_true_iff_forall_mem]
  intro u hu
  simp only [thArr, List.mem_toArray, List.mem_append, List.mem_cons, List.not_mem_nil, or_false, List.mem_map] at hu
  rcases hu with ((rfl | rfl) | ⟨x, _, rfl⟩) | (rfl | rfl) <;> rfl
theorem Tryd.infoTh : (Tryd.prog.info? 28).map (·.size) = some 12 := by kernel_rfl
theorem vmNew_any (fn arg : Int) (w : World) : Calls Tryd.prog 17 #[.int .i64 fn, .int .i64 arg] w fun e w' => e = .returned (.agg (thArr ⟨fn, 0, [arg, 0, 0, 0, 0, 0, 0, 0], [], false⟩ none 0)) ∧ Below w.heap.size w w' := by
  go_enter Tryd.func17, Tryd.ntmps17
  go_wp2_with fail
  exact bodyPost_ret (v := .agg (thArr ⟨fn, 0, [arg, 0, 0, 0, 0, 0, 0, 0], [], false⟩ none 0)) (by simp [results, Tryd.results17, go_sem, thArr]) rfl ⟨rfl, (Below.refl _ _).alloc (Nat.le_refl _) _⟩
set_option maxHeartbeats 1000000 in
theorem vmClone_any (t : Th) (A : Option Addr) (c : Nat) (w : World) (hn : t.stack.length ≤ 1000) (ht : ThOk w w.heap.size t A c) : Calls Tryd.prog 20 #[.agg (thArr t A c)] w fun e w' => ∃ A' c', e = .returned (.agg (thArr t A' c')) ∧ Own w' w.heap.size 64 2 A' t.stack.length c' (t.stack.flatMap frVals) ∧ Below w.heap.size w w' := by
  have HT := Lib.hid ht
  have h10 := thArr_10 A c ht.regs
  have HS := Lib.hid (thArr_size A c ht.regs)
  clear ht
  generalize hX : thArr t A c = X at *
  have HX := Lib.hid hX
  clear hX
  go_enter Tryd.func20, Tryd.ntmps20
  go_wp2_with fail
  have hb1 : Below w.heap.size w ((w.alloc (.cells X 28)).alloc (.cells #[.int .i64 0, .int .i64 0, .int .i64 0, .int .i64 0, .int .i64 0, .int .i64 0, .int .i64 0, .int .i64 0, .int .i64 0, .int .i64 0, .slice none 0 0, .bool false] 28)) := ((Below.refl _ _).alloc (Nat.le_refl _) _).alloc (by simp) _
  refine (frClone_any A t.stack.length c t.stack _ rfl hn ((HT.out.row.below hb1).more hb1.size)).mono ?_
  rintro e w3 ⟨A', c', rfl, hO, hb3⟩
  have hB0 : Blk w3 w.heap.size 28 X := (Blk.new w 28 X).alloc _ |>.below hb3 (by simp; omega)
  have hB1 : Blk w3 (w.heap.size + 1) 28 #[.int .i64 0, .int .i64 0, .int .i64 0, .int .i64 0, .int .i64 0, .int .i64 0, .int .i64 0, .int .i64 0, .int .i64 0, .int .i64 0, .slice none 0 0, .bool false] := by
    have := (Blk.new (w.alloc (.cells X 28)) 28 #[.int .i64 0, .int .i64 0, .int .i64 0, .int .i64 0, .int .i64 0, .int .i64 0, .int .i64 0, .int .i64 0, .int .i64 0, .int .i64 0, .slice none 0 0, .bool false]).below hb3 (by simp)
    rw [World.size_alloc] at this
    exact this
  have hz : w.heap.size + 2 ≤ w3.heap.size := by have := hb3.size; simp at this; omega
  have hf := hB0.frozen 10
  have hc10 := hB0.cell 10
  rw [h10] at hc10
  have HO := Lib.hid hO
  have HB3 := Lib.hid hb3
  have HB0 := Lib.hid hB0
  have HB1 := Lib.hid hB1
  have HX2 := Lib.hid (show X.setIfInBounds 10 (.slice A' t.stack.length c') = thArr t A' c' by rw [← HX.out]; exact thArr_set10 A A' c c' HT.out.regs)
  have HB0' := Lib.hid (show Blk (w3.setCell ⟨w.heap.size, 10, none⟩ (.slice A' t.stack.length c')) w.heap.size 28 (thArr t A' c') by rw [← HX2.out]; exact hB0.set_ 10 _)
  have HB1' := Lib.hid (hB1.far (p := ⟨w.heap.size, 10, none⟩) (by simp) (.slice A' t.stack.length c'))
  have HSZ := Lib.hid (show (Tryd.prog.info? 28).map (·.size) = some (thArr t A' c').size by rw [thArr_size A' c' HT.out.regs]; exact Tryd.infoTh)
  clear hO hb3 hb1 hB0 hB1 h10
  go_wp2_with (first | (refine wpList_load_row rfl 28 _ rfl w.heap.size rfl 28 (thArr t A' c') (0, 0) _ HB0'.out Tryd.underlying28 rfl HSZ.out ?_) | (refine wpList_store_row rfl 28 _ _ rfl (w.heap.size + 1) (thArr t A' c') rfl rfl 28 _ HB1'.out HSZ.out (by rw [thArr_size A' c' HT.out.regs]; rfl) (thArr_one t A' c') ?_))
  have hb1 : Below w.heap.size w w3 := (((Below.refl _ _).alloc (Nat.le_refl _) _).alloc (by simp) _).trans (HB3.out.mono (by simp; omega))
  have hO2 := own_setRow ((HO.out).setCell ⟨w.heap.size, 10, none⟩ (.slice A' t.stack.length c') (HO.out.ne_lt (by simp; omega))) (g := w.heap.size + 1) (by simp) (thArr t A' c')
  refine bodyPost_ret (v := .agg (thArr t A' c')) (results_cell_row Tryd.results20 _ _ (w.heap.size + 1) 28 (thArr t A' c') (0, 0) _ rfl (HB1'.out.setRow _) Tryd.underlying28 rfl HSZ.out) rfl ⟨A', c', rfl, own_base hO2 (by simp; omega), ?_⟩
  exact below_setRow (hb1.setCell (p := ⟨w.heap.size, 10, none⟩) (Nat.le_refl _) _) (by omega) (by simp [World.setCell]; omega) _
end Go.Proofs.YtoacnphgkgklcaaDoor

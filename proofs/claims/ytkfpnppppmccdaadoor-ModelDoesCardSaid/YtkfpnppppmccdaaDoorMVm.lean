/-
  Chapter 11: contract of vm.At. Conditions: program and thread lie in memory; the table isa.rows.
-/
import Derived.Test.YtkfpnppppmccdaaDoorLight9
import Derived.Test.YtkfpnppppmccdaaDoorApp
import Derived.Test.YtkfpnppppmccdaaDoorSch
import Derived.Test.YtkfpnppppmccdaaDoorRowl
import Derived.Deep.DeepMust
import Derived.Lib.SliceRun
import Derived.Outline
import Derived.WalkSpells
import Derived.WalkLawsBesides
import Derived.ChangeKeysEq
namespace Go.Proofs.YtkfpnppppmccdaaDoor
open Go.RowKit
def frVals (f : Int × Int) : List Value := [.int .i64 f.1, .int .i64 f.2]
theorem frVals_len (f : Int × Int) : (frVals f).length = 2 := rfl
theorem frVals_one (l : List (Int × Int)) : ∀ u ∈ l.flatMap frVals, u.oneCell' = true := by
  intro u hu
  obtain ⟨i, _, hi⟩ := List.mem_flatMap.1 hu
  simp only [frVals, List.mem_cons, List.not_mem_nil, or_false] at hi
  rcases hi with rfl | rfl <;> rfl
theorem Tryd.infoFr : (Tryd.prog.info? 105).map (fun i => (i.zero, i.size, i.bytes)) = some (some (.agg #[.int .i64 0, .int .i64 0]), 2, 16) := by kernel_rfl
set_option maxHeartbeats 1000000 in
set_option maxRecDepth 100000 in
theorem frClone_any (C : Option Addr) (n c : Nat) (l : List (Int × Int)) (w : World) (hl : l.length = n) (hn : n ≤ 1000) (hr : Row w w.heap.size C (l.flatMap frVals)) :
    Calls Tryd.prog 62 #[.slice C n c] w fun e w' => ∃ A' c', e = .returned (.slice A' n c') ∧ Own w' w.heap.size 105 2 A' n c' (l.flatMap frVals) ∧ Below w.heap.size w w' := by
  have q51 : ∀ (w : World) (a : Option Addr) (n c n' c' : Nat), (binOp .eql 54 (.slice a n c) (.slice none n' c')).run Tryd.prog w = .ok (.bool a.isNone) w := fun w a n c n' c' => Lib.run_eql_slice_nil w _ _ a n c n' c' Tryd.underlying54
  obtain ⟨i0, hi, hz0, hz1, hz2⟩ := info_parts Tryd.infoFr
  cases C with
  | none =>
    have h0 : l = [] := by
      rcases hr with h | ⟨b, off, e, _⟩
      · cases l with
        | nil => rfl
        | cons a l => simp [frVals] at h
      · cases e
    subst h0
    obtain rfl : n = 0 := by simpa using hl.symm
    clear hl hr hi hz0 hz1 hz2
    go_enter Tryd.func62, Tryd.ntmps62
    go_wp2
    go_ret
    exact ⟨none, 0, rfl, Own.nil _ _ _ _, Below.refl _ _⟩
  | some q =>
    have hlen : (l.flatMap frVals).length = n * 2 := by rw [flat_length frVals_len, hl]
    have hc : ∀ j u, (l.flatMap frVals)[j]? = some u → w.cell? (q.add j) = some u := by
      rcases hr with h | ⟨b, off, e, _, h⟩
      · intro j u hu; rw [h] at hu; cases hu
      · cases e
        intro j u hu
        rw [Addr.add_lit]
        exact h j u hu
    have HC := Lib.hid hc
    have HL := Lib.hid hlen
    have H1 := Lib.hid (frVals_one l)
    have HI := Lib.hid hi
    have HZ0 := Lib.hid hz0
    have HZ1 := Lib.hid hz1
    have HZ2 := Lib.hid hz2
    clear hc hlen hl hr hi hz0 hz1 hz2
    go_enter Tryd.func62, Tryd.ntmps62
    go_wp2_with (at_builtin; refine wpList_append_own _ rfl _ _ 54 rfl w.heap.size 105 i0 _ 2 16 Tryd.underlying54 HI.out HZ0.out HZ1.out HZ2.out rfl (by decide) _ _ _ rfl (World.ownsRow_made w #[] 0 (Nat.le_refl _) (Nat.zero_le _) (by simp)) q n c (l.flatMap frVals) rfl ?qc1 ?qc2 ?qc3 ?qc4 ?qc5 ?qc6 ?_)
    case qc1 => exact HL.out
    case qc2 =>
      intro j u hj
      exact Lib.cell?_alloc_some _ (HC.out j u hj)
    case qc3 => exact H1.out
    case qc4 => rw [Nat.zero_add]; unfold maxLen; omega
    case qc5 => omega
    case qc6 => simp
    intro v' w1 hown hgrow hnil
    have hex : ∃ A' cc, v' = .slice A' n cc := by
      rcases hown.2 with ⟨hv, h0⟩ | ⟨g, cap, cur, hv, _⟩
      · exact absurd hv hnil
      · exact ⟨_, _, hv⟩
    obtain ⟨A', cc, rfl⟩ := hex
    go_wp2_with fail
    go_ret
    refine ⟨A', cc, rfl, ?_, ?_⟩
    · exact hown
    · exact ((Below.refl _ w).alloc (Nat.le_refl _) _).grown hgrow (by simp) (by intro k hk; simp [Value.ownBlock] at hk; omega)

structure Th where
  fn : Int
  pc : Int
  regs : List Int
  stack : List (Int × Int)
  done : Bool
/-- A thread's cells. -/
def thArr (t : Th) (A : Option Addr) (c : Nat) : Array Value := ([Value.int .i64 t.fn, Value.int .i64 t.pc] ++ t.regs.map (Value.int .i64) ++ [Value.slice A t.stack.length c, Value.bool t.done]).toArray
/-- A thread lies in memory below B, its stack at A. -/
structure ThOk (w : World) (B : Nat) (t : Th) (A : Option Addr) (c : Nat) : Prop where
  regs : t.regs.length = 8
  row : Row w B A (t.stack.flatMap frVals)
  len : t.stack.length ≤ c
  cap : c ≤ maxLen
theorem thArr_size {t : Th} (A : Option Addr) (c : Nat) (h : t.regs.length = 8) : (thArr t A c).size = 12 := by simp [thArr, h]
section
variable {t : Th} (A : Option Addr) (c : Nat) (h : t.regs.length = 8)
theorem thArr_0 : (thArr t A c)[0]? = some (.int .i64 t.fn) := by simp [thArr]
theorem thArr_1 : (thArr t A c)[1]? = some (.int .i64 t.pc) := by simp [thArr]
include h
theorem thArr_reg (k : Nat) (hk : k < 8) : (thArr t A c)[2 + k]? = some (.int .i64 (t.regs.getD k 0)) := by
  simp only [thArr, List.getElem?_toArray]
  rw [List.append_assoc, List.getElem?_append_right (by simp), List.getElem?_append_left (by simp; omega)]
  simp [show k < t.regs.length by omega]
theorem thArr_10 : (thArr t A c)[10]? = some (.slice A t.stack.length c) := by
  simp only [thArr, List.getElem?_toArray]
  rw [List.getElem?_append_right (by simp; omega)]
  simp [h]
theorem thArr_11 : (thArr t A c)[11]? = some (.bool t.done) := by
  simp only [thArr, List.getElem?_toArray]
  rw [List.getElem?_append_right (by simp; omega)]
  simp [h]
end
theorem own_base {w : World} {b b' : Nat} {e : TypeId} {size n c : Nat} {A : Option Addr} {xs : List Value} (h : Own w b e size A n c xs) (hb : b' ≤ b) : Own w b' e size A n c xs := by
  refine ⟨h.1, ?_⟩
  rcases h.2 with hv | ⟨g, cap, cur, hv, hbg, hr⟩
  · exact .inl hv
  · exact .inr ⟨g, cap, cur, hv, Nat.le_trans hb hbg, hr⟩
theorem thArr_set10 {t : Th} (A A' : Option Addr) (c c' : Nat) (h : t.regs.length = 8) : (thArr t A c).setIfInBounds 10 (.slice A' t.stack.length c') = thArr t A' c' := by
  unfold thArr
  rw [List.setIfInBounds_toArray]
  congr 1
  rw [List.set_append_right _ _ (by simp; omega)]
  simp [h]
theorem thArr_one (t : Th) (A : Option Addr) (c : Nat) : (thArr t A c).all (·.oneCell') = true := by
  rw [Array.all_eq_true_iff_forall_mem]
  intro u hu
  simp only [thArr, List.mem_toArray, List.mem_append, List.mem_cons, List.not_mem_nil, or_false, List.mem_map] at hu
  rcases hu with ((rfl | rfl) | ⟨x, _, rfl⟩) | (rfl | rfl) <;> rfl
theorem Tryd.infoTh : (Tryd.prog.info? 56).map (·.size) = some 12 := by kernel_rfl
theorem vmNew_any (fn arg : Int) (w : World) : Calls Tryd.prog 28 #[.int .i64 fn, .int .i64 arg] w fun e w' => e = .returned (.agg (thArr ⟨fn, 0, [arg, 0, 0, 0, 0, 0, 0, 0], [], false⟩ none 0)) ∧ Below w.heap.size w w' := by
  go_enter Tryd.func28, Tryd.ntmps28
  go_wp2_with fail
  exact bodyPost_ret (v := .agg (thArr ⟨fn, 0, [arg, 0, 0, 0, 0, 0, 0, 0], [], false⟩ none 0)) (by simp [results, Tryd.results28, go_sem, thArr]) rfl ⟨rfl, (Below.refl _ _).alloc (Nat.le_refl _) _⟩
set_option maxHeartbeats 1000000 in
theorem vmClone_any (t : Th) (A : Option Addr) (c : Nat) (w : World) (hn : t.stack.length ≤ 1000) (ht : ThOk w w.heap.size t A c) : Calls Tryd.prog 43 #[.agg (thArr t A c)] w fun e w' => ∃ A' c', e = .returned (.agg (thArr t A' c')) ∧ Own w' w.heap.size 105 2 A' t.stack.length c' (t.stack.flatMap frVals) ∧ Below w.heap.size w w' := by
  have HT := Lib.hid ht
  have h10 := thArr_10 A c ht.regs
  have HS := Lib.hid (thArr_size A c ht.regs)
  clear ht
  generalize hX : thArr t A c = X at *
  have HX := Lib.hid hX
  clear hX
  go_enter Tryd.func43, Tryd.ntmps43
  go_wp2_with fail
  have hb1 : Below w.heap.size w ((w.alloc (.cells X 56)).alloc (.cells #[.int .i64 0, .int .i64 0, .int .i64 0, .int .i64 0, .int .i64 0, .int .i64 0, .int .i64 0, .int .i64 0, .int .i64 0, .int .i64 0, .slice none 0 0, .bool false] 56)) := ((Below.refl _ _).alloc (Nat.le_refl _) _).alloc (by simp) _
  refine (frClone_any A t.stack.length c t.stack _ rfl hn ((HT.out.row.below hb1).more hb1.size)).mono ?_
  rintro e w3 ⟨A', c', rfl, hO, hb3⟩
  have hB0 : Blk w3 w.heap.size 56 X := (Blk.new w 56 X).alloc _ |>.below hb3 (by simp; omega)
  have hB1 : Blk w3 (w.heap.size + 1) 56 #[.int .i64 0, .int .i64 0, .int .i64 0, .int .i64 0, .int .i64 0, .int .i64 0, .int .i64 0, .int .i64 0, .int .i64 0, .int .i64 0, .slice none 0 0, .bool false] := by
    have := (Blk.new (w.alloc (.cells X 56)) 56 #[.int .i64 0, .int .i64 0, .int .i64 0, .int .i64 0, .int .i64 0, .int .i64 0, .int .i64 0, .int .i64 0, .int .i64 0, .int .i64 0, .slice none 0 0, .bool false]).below hb3 (by simp)
    rw [World.size_alloc] at this
    exact this
  have hz : w.heap.size + 2 ≤ w3.heap.size := by have := hb3.size; simp at this; omega
  have hf := hB0.frozen 10
  have hc10 := hB0.cell 10
  rw [h10] at hc10
  have HO := Lib.hid hO
  have HB3 := Lib.hid hb3
  have HB0 := Lib.hid hB0
  have HB1 := Lib.hid hB1
  have HX2 := Lib.hid (show X.setIfInBounds 10 (.slice A' t.stack.length c') = thArr t A' c' by rw [← HX.out]; exact thArr_set10 A A' c c' HT.out.regs)
  have HB0' := Lib.hid (show Blk (w3.setCell ⟨w.heap.size, 10, none⟩ (.slice A' t.stack.length c')) w.heap.size 56 (thArr t A' c') by rw [← HX2.out]; exact hB0.set_ 10 _)
  have HB1' := Lib.hid (hB1.far (p := ⟨w.heap.size, 10, none⟩) (by simp) (.slice A' t.stack.length c'))
  have HSZ := Lib.hid (show (Tryd.prog.info? 56).map (·.size) = some (thArr t A' c').size by rw [thArr_size A' c' HT.out.regs]; exact Tryd.infoTh)
  clear hO hb3 hb1 hB0 hB1 h10
  go_wp2_with (first | (refine wpList_load_row rfl 56 _ rfl w.heap.size rfl 56 (thArr t A' c') (0, 0) _ HB0'.out Tryd.underlying56 rfl HSZ.out ?_) | (refine wpList_store_row rfl 56 _ _ rfl (w.heap.size + 1) (thArr t A' c') rfl rfl 56 _ HB1'.out HSZ.out (by rw [thArr_size A' c' HT.out.regs]; rfl) (thArr_one t A' c') ?_))
  have hb1 : Below w.heap.size w w3 := (((Below.refl _ _).alloc (Nat.le_refl _) _).alloc (by simp) _).trans (HB3.out.mono (by simp; omega))
  have hO2 := own_setRow ((HO.out).setCell ⟨w.heap.size, 10, none⟩ (.slice A' t.stack.length c') (HO.out.ne_lt (by simp; omega))) (g := w.heap.size + 1) (by simp) (thArr t A' c')
  refine bodyPost_ret (v := .agg (thArr t A' c')) (results_cell_row Tryd.results43 _ _ (w.heap.size + 1) 56 (thArr t A' c') (0, 0) _ rfl (HB1'.out.setRow _) Tryd.underlying56 rfl HSZ.out) rfl ⟨A', c', rfl, own_base hO2 (by simp; omega), ?_⟩
  exact below_setRow (hb1.setCell (p := ⟨w.heap.size, 10, none⟩) (Nat.le_refl _) _) (by omega) (by simp [World.setCell]; omega) _
end Go.Proofs.YtkfpnppppmccdaaDoor
namespace Go.Proofs.YtkfpnppppmccdaaDoor
open Go.RowKit
theorem takeEq_succ {α : Type} (xs ys : List α) (k : Nat) (h : xs.take k = ys.take k) (h1 : k < xs.length) (h2 : k < ys.length) (h3 : xs[k] = ys[k]) : xs.take (k + 1) = ys.take (k + 1) := by
  rw [List.take_succ_eq_append_getElem h1, List.take_succ_eq_append_getElem h2, h, h3]
theorem fr_cells {w : World} {B : Nat} {A : Option Addr} {xs : List (Int × Int)} (h : Row w B A (xs.flatMap frVals)) (k : Nat) (hk : k < xs.length) :
    ∃ b off, A = some ⟨b, off, none⟩ ∧ b < B ∧ w.cell? ⟨b, off + k * 2, none⟩ = some (.int .i64 xs[k].1) ∧ w.cell? ⟨b, off + k * 2 + 1, none⟩ = some (.int .i64 xs[k].2) := by
  obtain ⟨b, off, e, hb, hc⟩ := h.at_ (k := k * 2) (by rw [flat_length frVals_len]; omega)
  exact ⟨b, off, e, hb, hc _ _ (flat_at frVals_len xs k 0 _ _ (List.getElem?_eq_getElem hk) rfl), by rw [Nat.add_assoc]; exact hc _ _ (flat_at frVals_len xs k 1 _ _ (List.getElem?_eq_getElem hk) rfl)⟩
end Go.Proofs.YtkfpnppppmccdaaDoor
namespace Go.Proofs.YtkfpnppppmccdaaDoor
open Go.RowKit
theorem all_range_int : ∀ (xs ys : List Int), xs.length = ys.length → ((List.range xs.length).all fun i => xs.getD i 0 == ys.getD i 0) = decide (xs = ys)
  | [], [], _ => rfl
  | x :: xs, y :: ys, h => by
    have ih := all_range_int xs ys (by simpa using h)
    rw [List.length_cons, List.range_succ_eq_map, List.all_cons, List.all_map]
    simp only [List.getD_cons_zero, Function.comp_def, List.getD_cons_succ, ih]
    rw [Bool.eq_iff_iff]
    simp
  | [], _ :: _, h => by simp at h
  | _ :: _, [], h => by simp at h
theorem items_ints {P : Program} {w : World} {e : TypeId} (d : Nat) (he : P.underlying e = some (.int .i64)) (xs ys : List Int) (n : Nat) (hx : xs.length = n) (hy : ys.length = n) :
    ∀ is : List Nat, (∀ i ∈ is, i < n) → (Op.eqItems (d + 1) e 1 (xs.map (Value.int .i64)).toArray (ys.map (Value.int .i64)).toArray is).run P w = .ok (is.all fun i => xs.getD i 0 == ys.getD i 0) w
  | [], _ => by simp [Op.eqItems]
  | i :: is, h => by
    have hi : i < n := h i (by simp)
    have ih := items_ints (P := P) (w := w) d he xs ys n hx hy is (fun j hj => h j (by simp [hj]))
    have px : ∀ zs : List Int, zs.length = n → (part e (zs.map (Value.int .i64)).toArray (i * 1)).run P w = .ok (.int .i64 (zs.getD i 0)) w := fun zs hz => by
      simp [part, isAgg, run_underlying he, List.getD, List.getElem?_eq_getElem (show i < zs.length by omega)]
    simp only [Op.eqItems, Sem.run_bind, px xs hx, px ys hy, run_equalIn_int w d e .i64 .i64 _ _ he, Result.andThen_ok, List.all_cons]
    cases hb : (xs.getD i 0 == ys.getD i 0)
    · simp
    · simpa using ih
theorem equal_ints {P : Program} {w : World} {t e : TypeId} {n : Nat} (d : Nat) (ht : P.underlying t = some (.array n e)) (he : P.underlying e = some (.int .i64)) (hi : (P.info? e).map (·.size) = some 1) (xs ys : List Int) (hx : xs.length = n) (hy : ys.length = n) :
    (Op.equalIn (d + 2) t (.agg (xs.map (Value.int .i64)).toArray) (.agg (ys.map (Value.int .i64)).toArray)).run P w = .ok (decide (xs = ys)) w := by
  cases hq : P.info? e with
  | none => simp [hq] at hi
  | some i =>
    have hs : i.size = 1 := by simpa [hq] using hi
    have hc : P.cellsOf e = 1 := by unfold Program.cellsOf; rw [hq]; exact hs
    rw [run_equalIn_array w (d + 1) _ _ ht hq, hc, items_ints d he xs ys n hx hy (List.range n) (fun j hj => List.mem_range.1 hj)]
    have := all_range_int xs ys (by omega)
    rw [hx] at this
    rw [this]
/-- Threads that are the same. -/
def sameT (a b : Th) : Bool := decide (a.fn = b.fn) && (decide (a.pc = b.pc) && (decide (a.regs = b.regs) && (decide (a.done = b.done) && decide (a.stack = b.stack))))
theorem list8 {l : List Int} (h : l.length = 8) : ∃ r0 r1 r2 r3 r4 r5 r6 r7, l = [r0, r1, r2, r3, r4, r5, r6, r7] := by
  match l, h with
  | [r0, r1, r2, r3, r4, r5, r6, r7], _ => exact ⟨r0, r1, r2, r3, r4, r5, r6, r7, rfl⟩
theorem ThOk.step {w w' : World} {t : Th} {A : Option Addr} {c : Nat} (h : ThOk w w.heap.size t A c) (hb : Below w.heap.size w w') : ThOk w' w'.heap.size t A c := ⟨h.regs, (h.row.below hb).more hb.size, h.len, h.cap⟩
theorem below2 (w : World) (o1 o2 : Obj) : Below w.heap.size w ((w.alloc o1).alloc o2) := ((Below.refl _ _).alloc (Nat.le_refl _) _).alloc (by simp) _
theorem row2 {w : World} {A : Option Addr} {xs : List Value} (h : Row w w.heap.size A xs) (o1 o2 : Obj) : Row ((w.alloc o1).alloc o2) ((w.alloc o1).alloc o2).heap.size A xs := (h.below (below2 w o1 o2)).more (below2 w o1 o2).size
end Go.Proofs.YtkfpnppppmccdaaDoor
namespace Go.Proofs.YtkfpnppppmccdaaDoor
open Go.RowKit
set_option maxHeartbeats 4000000 in
set_option maxRecDepth 100000 in
theorem rSame_any (a b : Th) (A B : Option Addr) (c d : Nat) (w : World) (ha : ThOk w w.heap.size a A c) (hb : ThOk w w.heap.size b B d) : Calls Tryd.prog 41 #[.agg (thArr a A c), .agg (thArr b B d)] w fun e w' => e = .returned (.bool (sameT a b)) ∧ Below w.heap.size w w' := by
  obtain ⟨fa, pa, ra, sa, da⟩ := a
  obtain ⟨fb, pb, rb, sb, db⟩ := b
  have HA := Lib.hid ha
  have HB := Lib.hid hb
  have h1 := ha.regs
  have h2 := hb.regs
  simp only at h1 h2
  have FEQ : ∀ w', (Op.equalIn 10000 53 (.agg (ra.map (Value.int .i64)).toArray) (.agg (rb.map (Value.int .i64)).toArray)).run Tryd.prog w' = .ok (decide (ra = rb)) w' := fun w' => equal_ints 9998 Tryd.underlying53 Tryd.underlying2 (by kernel_rfl) ra rb h1 h2
  obtain ⟨r0, r1, r2, r3, r4, r5, r6, r7, e1⟩ := list8 h1
  obtain ⟨s0, s1, s2, s3, s4, s5, s6, s7, e2⟩ := list8 h2
  have HD := Lib.hid (show decide (ra = rb) = decide ([r0, r1, r2, r3, r4, r5, r6, r7] = [s0, s1, s2, s3, s4, s5, s6, s7]) by rw [e1, e2])
  generalize hq : decide (ra = rb) = q at *
  have HQ := Lib.hid hq
  subst e1 e2
  simp only [List.map_cons, List.map_nil] at FEQ
  clear h1 h2 ha hb hq
  have eA : thArr ⟨fa, pa, [r0, r1, r2, r3, r4, r5, r6, r7], sa, da⟩ A c = #[.int .i64 fa, .int .i64 pa, .int .i64 r0, .int .i64 r1, .int .i64 r2, .int .i64 r3, .int .i64 r4, .int .i64 r5, .int .i64 r6, .int .i64 r7, .slice A sa.length c, .bool da] := rfl
  have eB : thArr ⟨fb, pb, [s0, s1, s2, s3, s4, s5, s6, s7], sb, db⟩ B d = #[.int .i64 fb, .int .i64 pb, .int .i64 s0, .int .i64 s1, .int .i64 s2, .int .i64 s3, .int .i64 s4, .int .i64 s5, .int .i64 s6, .int .i64 s7, .slice B sb.length d, .bool db] := rfl
  rw [eA, eB]
  clear eA eB
  by_cases hl : sa.length = sb.length
  · by_cases hall : fa = fb ∧ pa = pb ∧ q = true ∧ da = db
    · obtain ⟨rfl, rfl, hqt, rfl⟩ := hall
      have HL := Lib.hid hl
      have hq2 := HQ.out
      rw [hqt] at hq2
      rw [hqt] at FEQ
      have HS := Lib.hid (show sameT ⟨fa, pa, [r0, r1, r2, r3, r4, r5, r6, r7], sa, da⟩ ⟨fa, pa, [s0, s1, s2, s3, s4, s5, s6, s7], sb, da⟩ = decide (sa = sb) by
        simp only [sameT, hq2, decide_true, Bool.true_and])
      have hne : ((sa.length : Int) != (sb.length : Int)) = false := by simp; omega
      have hlen := Nat.le_trans HA.out.len HA.out.cap
      simp only at hlen
      unfold maxLen at hlen
      have HRA := Lib.hid (show Row w w.heap.size A (sa.flatMap frVals) from HA.out.row)
      have HRB := Lib.hid (show Row w w.heap.size B (sb.flatMap frVals) from HB.out.row)
      have hdl : ∃ n : Nat, Hid (n = sa.length) ∧ Hid (n = sb.length) := ⟨sa.length, rfl, hl⟩
      obtain ⟨n, HN1, HN2⟩ := hdl
      rw [← HN1.out, ← HN2.out]
      rw [← HN1.out] at hlen
      clear hq2 hl hqt hne HD HQ HL
      go_enter Tryd.func41, Tryd.ntmps41
      go_wp2_with fail
      have hbW := below2 w (.cells #[.int .i64 fa, .int .i64 pa, .int .i64 r0, .int .i64 r1, .int .i64 r2, .int .i64 r3, .int .i64 r4, .int .i64 r5, .int .i64 r6, .int .i64 r7, .slice A n c, .bool da] 56) (.cells #[.int .i64 fa, .int .i64 pa, .int .i64 s0, .int .i64 s1, .int .i64 s2, .int .i64 s3, .int .i64 s4, .int .i64 s5, .int .i64 s6, .int .i64 s7, .slice B n d, .bool da] 56)
      have hW : ∃ W : World, Hid (W = (w.alloc (.cells #[.int .i64 fa, .int .i64 pa, .int .i64 r0, .int .i64 r1, .int .i64 r2, .int .i64 r3, .int .i64 r4, .int .i64 r5, .int .i64 r6, .int .i64 r7, .slice A n c, .bool da] 56)).alloc (.cells #[.int .i64 fa, .int .i64 pa, .int .i64 s0, .int .i64 s1, .int .i64 s2, .int .i64 s3, .int .i64 s4, .int .i64 s5, .int .i64 s6, .int .i64 s7, .slice B n d, .bool da] 56)) := ⟨_, rfl⟩
      obtain ⟨W, HW⟩ := hW
      rw [← HW.out] at hbW ⊢
      have hBA : Blk W w.heap.size 56 #[.int .i64 fa, .int .i64 pa, .int .i64 r0, .int .i64 r1, .int .i64 r2, .int .i64 r3, .int .i64 r4, .int .i64 r5, .int .i64 r6, .int .i64 r7, .slice A n c, .bool da] := by rw [HW.out]; exact (Blk.new w _ _).alloc _
      have hBB : Blk W (w.heap.size + 1) 56 #[.int .i64 fa, .int .i64 pa, .int .i64 s0, .int .i64 s1, .int .i64 s2, .int .i64 s3, .int .i64 s4, .int .i64 s5, .int .i64 s6, .int .i64 s7, .slice B n d, .bool da] := by rw [HW.out]; exact heap_alloc2_new w _ _
      have hcA : W.cell? ⟨w.heap.size, 10, none⟩ = some (.slice A n c) := hBA.cell 10
      have hcB : W.cell? ⟨w.heap.size + 1, 10, none⟩ = some (.slice B n d) := hBB.cell 10
      have hz1 : w.heap.size < W.heap.size := hBA.lt
      have hz2 : w.heap.size + 1 < W.heap.size := hBB.lt
      have HRA2 := Lib.hid ((HRA.out.below hbW).more hbW.size)
      have HRB2 := Lib.hid ((HRB.out.below hbW).more hbW.size)
      clear hBA hBB HRA HRB HA HB HW FEQ
      go_loopw [5] (fun vi wr => ∃ k : Nat, k ≤ n ∧ vi = .int .i64 k ∧ sa.take k = sb.take k ∧ Below W.heap.size W wr) (fun vi _ => n - (intOf vi).toNat)
      case atStart => exact ⟨0, Nat.zero_le _, rfl, rfl, Below.refl _ _⟩
      case round =>
        obtain ⟨k, hk, rfl, ht, hbw⟩ := hrel
        have HT := Lib.hid ht
        clear ht
        have G0 : ∀ w', Below W.heap.size W w' → w'.cell? ⟨w.heap.size, 10, none⟩ = some (.slice A n c) := fun w' h => (h.cell (p := ⟨w.heap.size, 10, none⟩) hz1).trans hcA
        have G1 : ∀ w', Below W.heap.size W w' → w'.cell? ⟨w.heap.size + 1, 10, none⟩ = some (.slice B n d) := fun w' h => (h.cell (p := ⟨w.heap.size + 1, 10, none⟩) hz2).trans hcB
        have g0 := G0 wr hbw
        by_cases hlt : k < n
        · have hkx : k < sa.length := by have := HN1.out; omega
          have hky : k < sb.length := by have := HN2.out; omega
          obtain ⟨b, off, rfl, hbl, hx0, hx1⟩ := fr_cells HRA2.out k hkx
          obtain ⟨b', off', rfl, hbl', hy0, hy1⟩ := fr_cells HRB2.out k hky
          have F0 : ∀ w', Below W.heap.size W w' → w'.cell? ⟨b, off + k * 2, none⟩ = some (.int .i64 sa[k].1) := fun w' h => (h.cell (p := ⟨b, off + k * 2, none⟩) hbl).trans hx0
          have F1 : ∀ w', Below W.heap.size W w' → w'.cell? ⟨b, off + k * 2 + 1, none⟩ = some (.int .i64 sa[k].2) := fun w' h => (h.cell (p := ⟨b, off + k * 2 + 1, none⟩) hbl).trans hx1
          have F2 : ∀ w', Below W.heap.size W w' → w'.cell? ⟨b', off' + k * 2, none⟩ = some (.int .i64 sb[k].1) := fun w' h => (h.cell (p := ⟨b', off' + k * 2, none⟩) hbl').trans hy0
          have F3 : ∀ w', Below W.heap.size W w' → w'.cell? ⟨b', off' + k * 2 + 1, none⟩ = some (.int .i64 sb[k].2) := fun w' h => (h.cell (p := ⟨b', off' + k * 2 + 1, none⟩) hbl').trans hy1
          clear hx0 hx1 hy0 hy1 hbl hbl'
          have HXY := Lib.hid (show (sa[k].1 = sb[k].1 ∧ sa[k].2 = sb[k].2) ↔ sa[k] = sb[k] from ⟨fun h => Prod.ext h.1 h.2, fun h => by rw [h]; exact ⟨rfl, rfl⟩⟩)
          have HNE := Lib.hid (show ¬ sa[k] = sb[k] → decide (sa = sb) = false from fun he => by
            rw [decide_eq_false]
            intro h; apply he; simp [h])
          have HEQ := Lib.hid (fun h => takeEq_succ sa sb k HT.out hkx hky h)
          generalize sa[k] = x at *
          generalize sb[k] = y at *
          obtain ⟨x1, x2⟩ := x
          obtain ⟨y1, y2⟩ := y
          simp only at F0 F1 F2 F3 HXY
          have hcase : (x1 == y1) = false ∨ ((x1 == y1) = true ∧ (x2 == y2) = false) ∨ ((x1 == y1) = true ∧ (x2 == y2) = true) := by
            cases (x1 == y1) <;> cases (x2 == y2) <;> simp
          rcases hcase with h1 | ⟨h1, h2⟩ | ⟨h1, h2⟩
          · have HR := Lib.hid (HNE.out (fun h => by have := (HXY.out.2 h).1; simp [this] at h1))
            go_wp2_with fail
            refine region_below W W.heap.size (by kernel_rfl) (by kernel_rfl) hbw ?_
            repeat (first | go_big_quiet_skip | (go_big_quiet_want; first | (go_big_quiet_op; first | go_big_quiet_on | ((first | with_reducible refine ⟨_, fun _ _ => rfl, ?_⟩); go_big_quiet_on)) | (simp (contextual := true) [go_sem, F0, F1, F2, F3, G0, G1]; with_reducible refine ⟨_, fun _ _ => rfl, ?_⟩; go_big_quiet_on)))
            refine wpQuiet_nil ?_
            intro w1 hw1
            clear F0 F1 F2 F3 G0 G1
            go_wp2_with fail
            go_ret
            exact ⟨by rw [HS.out, HR.out]; rfl, hbW.trans (hw1.mono hbW.size)⟩
          · have HR := Lib.hid (HNE.out (fun h => by have := (HXY.out.2 h).2; simp [this] at h2))
            obtain rfl : x1 = y1 := by simpa using h1
            clear h1
            go_wp2_with fail
            refine region_below W W.heap.size (by kernel_rfl) (by kernel_rfl) hbw ?_
            repeat (first | go_big_quiet_skip | (go_big_quiet_want; first | (go_big_quiet_op; first | go_big_quiet_on | ((first | with_reducible refine ⟨_, fun _ _ => rfl, ?_⟩); go_big_quiet_on)) | (simp (contextual := true) [go_sem, F0, F1, F2, F3, G0, G1]; with_reducible refine ⟨_, fun _ _ => rfl, ?_⟩; go_big_quiet_on)))
            refine wpQuiet_nil ?_
            intro w1 hw1
            clear F0 F1 F2 F3 G0 G1
            go_wp2_with fail
            go_ret
            exact ⟨by rw [HS.out, HR.out]; rfl, hbW.trans (hw1.mono hbW.size)⟩
          · obtain rfl : x1 = y1 := by simpa using h1
            obtain rfl : x2 = y2 := by simpa using h2
            have HR := Lib.hid (HEQ.out rfl)
            clear h1 h2 HEQ HNE HXY
            go_wp2_with fail
            refine region_below W W.heap.size (by kernel_rfl) (by kernel_rfl) hbw ?_
            repeat (first | go_big_quiet_skip | (go_big_quiet_want; first | (go_big_quiet_op; first | go_big_quiet_on | ((first | with_reducible refine ⟨_, fun _ _ => rfl, ?_⟩); go_big_quiet_on)) | (simp (contextual := true) [go_sem, F0, F1, F2, F3, G0, G1]; with_reducible refine ⟨_, fun _ _ => rfl, ?_⟩; go_big_quiet_on)))
            refine wpQuiet_nil ?_
            intro w1 hw1
            clear F0 F1 F2 F3 G0 G1
            go_wp2_with fail
            go_roundw
            case rel => exact ⟨k + 1, by omega, by go_num, HR.out, hw1⟩
            case measure => simp [intOf]; omega
        · have hkn : k = n := by omega
          subst hkn
          have HB2 := Lib.hid hbw
          clear hbw G0 G1
          go_wp2_with fail
          go_ret
          have e : sa = sb := by
            have := HT.out
            rw [List.take_of_length_le (by rw [← HN1.out]; omega), List.take_of_length_le (by rw [← HN2.out]; omega)] at this
            exact this
          exact ⟨by rw [HS.out, decide_eq_true e]; rfl, hbW.trans (HB2.out.mono hbW.size)⟩
    · go_enter Tryd.func41, Tryd.ntmps41
      go_wp2_with fail
      · exact absurd ⟨by assumption, by assumption, by assumption, by assumption⟩ hall
      · have h4 : ¬ da = db := by assumption
        go_ret
        refine ⟨?_, below2 w _ _⟩
        simp [sameT, h4]
      · have h3 : ¬ q = true := by assumption
        go_ret
        refine ⟨?_, below2 w _ _⟩
        have e5 := HQ.out
        rw [Bool.not_eq_true] at h3
        rw [h3] at e5
        simp only [sameT, e5, Bool.false_and, Bool.and_false]
        rfl
      · have h2 : ¬ pa = pb := by assumption
        go_ret
        refine ⟨?_, below2 w _ _⟩
        simp [sameT, h2]
      · have h1 : ¬ fa = fb := by assumption
        go_ret
        refine ⟨?_, below2 w _ _⟩
        simp [sameT, h1]
  · have hl' : ((sa.length : Int) != (sb.length : Int)) = true := by simp; omega
    have e : sameT ⟨fa, pa, [r0, r1, r2, r3, r4, r5, r6, r7], sa, da⟩ ⟨fb, pb, [s0, s1, s2, s3, s4, s5, s6, s7], sb, db⟩ = false := by
      have : ¬ sa = sb := fun h => hl (by rw [h])
      simp [sameT, this]
    rw [e]
    go_enter Tryd.func41, Tryd.ntmps41
    go_wp2_with fail
    all_goals (go_ret; exact ⟨rfl, below2 w _ _⟩)
end Go.Proofs.YtkfpnppppmccdaaDoor
namespace Go.Proofs.YtkfpnppppmccdaaDoor
open Go.RowKit
/-- Is there such a place? -/
def placeB (fs : List Fn) (f pc : Int) : Bool := decide (0 ≤ f ∧ f < fs.length ∧ 0 ≤ pc ∧ pc < (fs.getD f.toNat noFn).code.length)
theorem placeB_nat (fs : List Fn) (k : Nat) (hk : k < fs.length) (pc : Int) : placeB fs k pc = decide (0 ≤ pc ∧ pc < (fs[k]).code.length) := by
  unfold placeB
  have e : fs.getD (k : Int).toNat noFn = fs[k] := by simp [hk]
  rw [e]
  rw [Bool.eq_iff_iff]
  simp
  omega
end Go.Proofs.YtkfpnppppmccdaaDoor
namespace Go.Proofs.YtkfpnppppmccdaaDoor
open Go.RowKit
/-- A number that is below 0 or not. -/
def IdxOut (w : World) (q : Bool) (e : Ending) (w' : World) : Prop := ∃ k : Int, e = .returned (.int .i64 k) ∧ decide (0 ≤ k) = q ∧ Below w.heap.size w w'
def placesB (fs : List Fn) (st : List (Int × Int)) : Bool := st.all fun f => placeB fs f.1 f.2
theorem placesB_no {fs : List Fn} {st : List (Int × Int)} {k : Nat} (hk : k < st.length) (h : placeB fs st[k].1 st[k].2 = false) : placesB fs st = false := by
  cases hp : placesB fs st with
  | false => rfl
  | true =>
    unfold placesB at hp
    rw [List.all_eq_true] at hp
    rw [hp _ (List.getElem_mem hk)] at h
    cases h
theorem placesB_yes {fs : List Fn} {st : List (Int × Int)} (h : ∀ k (hk : k < st.length), placeB fs st[k].1 st[k].2 = true) : placesB fs st = true := by
  unfold placesB
  rw [List.all_eq_true]
  intro x hx
  obtain ⟨k, hk, rfl⟩ := List.mem_iff_getElem.1 hx
  exact h k hk
/-- Does a thread that is not done fit? -/
def fitsP (fs : List Fn) (t : Th) : Bool := placeB fs t.fn t.pc && (decide (t.stack.length ≤ 16) && placesB fs t.stack)
end Go.Proofs.YtkfpnppppmccdaaDoor
namespace Go.Proofs.YtkfpnppppmccdaaDoor
open Go.RowKit
/-- May a program run? -/
def runB (fs : List Fn) : Bool := decide ((checkP fs).2.2 = 0)
/-- Does a thread fit? -/
def fitsT (fs : List Fn) (t : Th) : Bool := runB fs && (t.done || fitsP fs t)
end Go.Proofs.YtkfpnppppmccdaaDoor
namespace Go.Proofs.YtkfpnppppmccdaaDoor
open Go.RowKit
end Go.Proofs.YtkfpnppppmccdaaDoor
namespace Go.Proofs.YtkfpnppppmccdaaDoor
open Go.RowKit
def zeroIns : Ins := ⟨0, 0, 0, 0, 0⟩
/-- The instruction at a place. -/
def insAt (fs : List Fn) (f pc : Int) : Ins := (fs.getD f.toNat noFn).code.getD pc.toNat zeroIns
def insArr (i : Ins) : Array Value := #[.int .i64 i.op, .int .i64 i.a, .int .i64 i.b, .int .i64 i.c, .int .i64 i.n]
theorem fits_place {fs : List Fn} {t : Th} (h : fitsT fs t = true) (hd : t.done = false) : runB fs = true ∧ ∃ k m : Nat, t.fn = k ∧ t.pc = m ∧ ∃ hk : k < fs.length, ∃ hm : m < fs[k].code.length, insAt fs t.fn t.pc = fs[k].code[m] := by
  unfold fitsT fitsP at h
  rw [hd, Bool.false_or, Bool.and_eq_true, Bool.and_eq_true] at h
  obtain ⟨h1, h2, _⟩ := h
  refine ⟨h1, ?_⟩
  unfold placeB at h2
  rw [decide_eq_true_eq] at h2
  obtain ⟨k0, k1, k2, k3⟩ := h2
  have hk : t.fn.toNat < fs.length := by omega
  have e : fs.getD t.fn.toNat noFn = fs[t.fn.toNat] := by simp [hk]
  rw [e] at k3
  have hm : t.pc.toNat < fs[t.fn.toNat].code.length := by omega
  refine ⟨t.fn.toNat, t.pc.toNat, by omega, by omega, hk, hm, ?_⟩
  unfold insAt
  rw [e]
  simp [hm]
/-- Where the instruction lies. -/
theorem FnsOk.fetch {w : World} {B : Nat} {A : Option Addr} {fs : List Fn} (h : FnsOk w B A fs) {k m : Nat} (hk : k < fs.length) (hm : m < fs[k].code.length) :
    ∃ b off b2 off2 an ac : Nat, A = some ⟨b, off, none⟩ ∧ b < B ∧ b2 < B ∧ m < an ∧ an ≤ maxLen ∧ w.cell? ⟨b, off + k * 2, none⟩ = some (.slice (some ⟨b2, off2, none⟩) an ac) ∧ InsOk fs[k].code[m] ∧
      w.cell? ⟨b2, off2 + m * 5, none⟩ = some (.int .i64 fs[k].code[m].op) ∧ w.cell? ⟨b2, off2 + m * 5 + 1, none⟩ = some (.int .i64 fs[k].code[m].a) ∧ w.cell? ⟨b2, off2 + m * 5 + 2, none⟩ = some (.int .i64 fs[k].code[m].b) ∧ w.cell? ⟨b2, off2 + m * 5 + 3, none⟩ = some (.int .i64 fs[k].code[m].c) ∧ w.cell? ⟨b2, off2 + m * 5 + 4, none⟩ = some (.int .i64 fs[k].code[m].n) := by
  obtain ⟨b, off, a, e, hb, h0, h1, hf⟩ := h.at_ k hk
  obtain ⟨b2, off2, e2, hb2, g0, g1, g2, g3, g4⟩ := hf.ins5 m hm
  exact ⟨b, off, b2, off2, a.n, a.c, e, hb, hb2, by rw [hf.1]; exact hm, hf.2.2.2.2.1, by rw [← e2]; exact h0, hf.2.2.2.2.2.2 _ (List.getElem_mem hm), g0, g1, g2, g3, g4⟩
theorem Tryd.infoInsS : (Tryd.prog.info? 64).map (·.size) = some 5 := by kernel_rfl
theorem insArr_one (i : Ins) : (insArr i).all (·.oneCell') = true := by simp [insArr, Value.oneCell']
theorem blk3 (w : World) (o1 o2 : Obj) (t : TypeId) (cs : Array Value) : Blk (((w.alloc o1).alloc o2).alloc (.cells cs t)) (w.heap.size + 2) t cs := by
  have := Blk.new ((w.alloc o1).alloc o2) t cs
  rw [World.size_alloc, World.size_alloc] at this
  exact this
theorem below3 (w : World) (o1 o2 o3 : Obj) : Below w.heap.size w (((w.alloc o1).alloc o2).alloc o3) := (below2 w o1 o2).alloc (by simp; omega) _
set_option maxHeartbeats 4000000 in
theorem rAt_any (t : Th) (A B : Option Addr) (c d : Nat) (fs : List Fn) (w : World) (_hm : fs.length ≤ maxLen) (hf : FnsOk w w.heap.size A fs) (ht : ThOk w w.heap.size t B d) (hfit : fitsT fs t = true) :
    Calls Tryd.prog 38 #[.agg #[.slice A fs.length c], .agg (thArr t B d)] w fun e w' => e = .returned (.tuple #[.agg (insArr (if t.done then zeroIns else insAt fs t.fn t.pc)), .bool (!t.done)]) ∧ Below w.heap.size w w' := by
  have h0 := thArr_0 (t := t) B d
  have h1 := thArr_1 (t := t) B d
  have h11 := thArr_11 B d ht.regs
  unfold maxLen at _hm
  generalize hX : thArr t B d = X at *
  clear hX
  cases hdn : t.done with
  | true =>
    rw [hdn] at h11
    clear hfit hf ht hdn h0 h1
    go_enter Tryd.func38, Tryd.ntmps38
    go_wp2_with fail
    refine bodyPost_ret (v := .tuple #[.agg (insArr zeroIns), .bool false]) (results_cell2 Tryd.results38 _ _ (w.heap.size + 2) 64 (insArr zeroIns) (0, 0) _ rfl (blk3 w _ _ 64 (insArr zeroIns)) Tryd.underlying64 rfl Tryd.infoInsS) rfl ⟨by simp, below3 w _ _ _⟩
  | false =>
    obtain ⟨_, k, m, ek, em, hk, hm, ei⟩ := fits_place hfit hdn
    rw [hdn] at h11
    rw [ei]
    rw [ek] at h0
    rw [em] at h1
    have hb0 := below3 w (.cells #[.slice A fs.length c] 24) (.cells X 56) (.cells #[.int .i64 0, .int .i64 0, .int .i64 0, .int .i64 0, .int .i64 0] 64)
    have hW : ∃ W : World, Hid (W = ((w.alloc (.cells #[.slice A fs.length c] 24)).alloc (.cells X 56)).alloc (.cells #[.int .i64 0, .int .i64 0, .int .i64 0, .int .i64 0, .int .i64 0] 64)) := ⟨_, rfl⟩
    obtain ⟨W, HW⟩ := hW
    have hBP : Blk W w.heap.size 24 #[.slice A fs.length c] := by rw [HW.out]; exact ((Blk.new w _ _).alloc _).alloc _
    have hBT : Blk W (w.heap.size + 1) 56 X := by rw [HW.out]; exact Blk.alloc (heap_alloc2_new w _ _) _
    have hBI : Blk W (w.heap.size + 2) 64 #[.int .i64 0, .int .i64 0, .int .i64 0, .int .i64 0, .int .i64 0] := by
      rw [HW.out]
      exact blk3 w _ _ _ _
    rw [← HW.out] at hb0
    have HB0 := Lib.hid hb0
    have HBI := Lib.hid hBI
    obtain ⟨b, off, b2, off2, an, ac, rfl, hbl, hbl2, hma, hna, hc0, hok, i0, i1, i2, i3, i4⟩ := (hf.below hb0).fetch hk hm
    have hz : w.heap.size + 2 < W.heap.size := hBI.lt
    generalize hI : fs[k].code[m] = ins at *
    unfold maxLen at hna
    have S0 : ∀ w', Below (w.heap.size + 2) W w' → w'.cell? ⟨w.heap.size, 0, none⟩ = some (.slice (some ⟨b, off, none⟩) fs.length c) := fun w' h => (h.cell (p := ⟨w.heap.size, 0, none⟩) (by simp)).trans (hBP.cell 0)
    have S1 : ∀ w', Below (w.heap.size + 2) W w' → w'.cell? ⟨w.heap.size + 1, 0, none⟩ = some (.int .i64 k) := fun w' h => (h.cell (p := ⟨w.heap.size + 1, 0, none⟩) (by simp)).trans ((hBT.cell 0).trans h0)
    have S2 : ∀ w', Below (w.heap.size + 2) W w' → w'.cell? ⟨w.heap.size + 1, 1, none⟩ = some (.int .i64 m) := fun w' h => (h.cell (p := ⟨w.heap.size + 1, 1, none⟩) (by simp)).trans ((hBT.cell 1).trans h1)
    have S3 : ∀ w', Below (w.heap.size + 2) W w' → w'.cell? ⟨b, off + k * 2, none⟩ = some (.slice (some ⟨b2, off2, none⟩) an ac) := fun w' h => (h.cell (p := ⟨b, off + k * 2, none⟩) (by show b < _; omega)).trans hc0
    have S4 : ∀ w', Below (w.heap.size + 2) W w' → w'.cell? ⟨b2, off2 + m * 5, none⟩ = some (.int .i64 ins.op) := fun w' h => (h.cell (p := ⟨b2, off2 + m * 5, none⟩) (by show b2 < _; omega)).trans i0
    have S5 : ∀ w', Below (w.heap.size + 2) W w' → w'.cell? ⟨b2, off2 + m * 5 + 1, none⟩ = some (.int .i64 ins.a) := fun w' h => (h.cell (p := ⟨b2, off2 + m * 5 + 1, none⟩) (by show b2 < _; omega)).trans i1
    have S6 : ∀ w', Below (w.heap.size + 2) W w' → w'.cell? ⟨b2, off2 + m * 5 + 2, none⟩ = some (.int .i64 ins.b) := fun w' h => (h.cell (p := ⟨b2, off2 + m * 5 + 2, none⟩) (by show b2 < _; omega)).trans i2
    have S7 : ∀ w', Below (w.heap.size + 2) W w' → w'.cell? ⟨b2, off2 + m * 5 + 3, none⟩ = some (.int .i64 ins.c) := fun w' h => (h.cell (p := ⟨b2, off2 + m * 5 + 3, none⟩) (by show b2 < _; omega)).trans i3
    have S8 : ∀ w', Below (w.heap.size + 2) W w' → w'.cell? ⟨b2, off2 + m * 5 + 4, none⟩ = some (.int .i64 ins.n) := fun w' h => (h.cell (p := ⟨b2, off2 + m * 5 + 4, none⟩) (by show b2 < _; omega)).trans i4
    clear hfit hf ht hdn h0 h1 ek em ei hb0 hBP hBT hBI hc0 i0 i1 i2 i3 i4 hok hI
    go_enter Tryd.func38, Tryd.ntmps38
    go_wp2_with fail
    rw [← HW.out]
    refine region_sch (fun w' => Below (w.heap.size + 2) W w') [([0, 1, 2, 3, 4, 5, 6, 7, 8, 9, 10], 11)] [12] (by kernel_rfl) (by kernel_rfl) (by kernel_rfl) (fun _ _ d _ _ h => by cases d <;> exact h) (Below.refl _ _).drew ?_
    (try simp only [Act.put, List.setIfInBounds_toArray, List.set_cons_zero, List.set_cons_succ]); refine sch_seg ?_; simp only [pickOps, List.getElem?_toArray, List.getElem?_cons_zero, List.getElem?_cons_succ]; (repeat (first | go_big_quiet_skip | (go_big_quiet_want; first | (go_big_quiet_op; first | go_big_quiet_on | ((first | with_reducible refine ⟨_, fun _ _ => rfl, ?_⟩); go_big_quiet_on)) | (simp (contextual := true) [go_sem, S0, S1, S2, S3, S4, S5, S6, S7, S8]; with_reducible refine ⟨_, fun _ _ => rfl, ?_⟩; go_big_quiet_on)))); refine wpQuiet_nil ?_
    clear S0 S1 S2 S3 S4 S5 S6 S7 S8
    go_wp2_with (refine wpList_store_row rfl 64 _ _ rfl (w.heap.size + 2) (insArr ins) rfl rfl 64 _ (show W.drew.heap[w.heap.size + 2]? = _ from HBI.out) Tryd.infoInsS rfl (insArr_one ins) ?_)
    refine ⟨fun w' => Below (w.heap.size + 2) W w', below_setRow (Below.refl _ _).drew (Nat.le_refl _) (by show _ ≤ W.heap.size; omega) _, fun _ h => h, ?_⟩
    (try simp only [Act.put]); refine sch_end ?_; simp only [pickOps, List.getElem?_toArray, List.getElem?_cons_zero, List.getElem?_cons_succ]; (repeat (first | go_big_quiet_skip | (go_big_quiet_want; first | (go_big_quiet_op; first | go_big_quiet_on | ((first | with_reducible refine ⟨_, fun _ _ => rfl, ?_⟩); go_big_quiet_on)) | (simp (contextual := true) [go_sem, HB0]; with_reducible refine ⟨_, fun _ _ => rfl, ?_⟩; go_big_quiet_on)))); refine wpQuiet_nil ?_
    go_wp2_with fail
    refine bodyPost_ret (v := .tuple #[.agg (insArr ins), .bool true]) (results_cell2 Tryd.results38 _ _ (w.heap.size + 2) 64 (insArr ins) (0, 0) _ rfl (Blk.setRow (show Blk W.drew (w.heap.size + 2) _ _ from HBI.out) _) Tryd.underlying64 rfl Tryd.infoInsS) rfl ⟨rfl, ?_⟩
    exact below_setRow HB0.out.drew (by omega) (by show _ ≤ W.heap.size; omega) _
end Go.Proofs.YtkfpnppppmccdaaDoor
namespace Go.Proofs.YtkfpnppppmccdaaDoor
open Go.RowKit
def atB (fs : List Fn) (t : Th) : Bool := !t.done && fitsT fs t
end Go.Proofs.YtkfpnppppmccdaaDoor

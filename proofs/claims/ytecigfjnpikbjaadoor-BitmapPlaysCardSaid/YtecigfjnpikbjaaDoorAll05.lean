/-
  Chapter 5: the law's own 'all': a range over the map's iterator collects what comes. Contract, over whatever contract the iterator has.
-/
import Derived.Test.YtecigfjnpikbjaaDoorBm9
import Derived.RangeFuncNested
import Derived.RangeFuncBound
import Derived.RangeFuncCalls
import Derived.RangeFuncLeaves
import Derived.RangeFuncBox
import Derived.Shelf.Abstract
import Derived.Shelf.RegionOpen
import Derived.WalkKit
import Derived.OwnWalkIn
import Derived.TacticsInMore
import Derived.LoopNIn
import Derived.LoopIn
import Derived.Maps.AppendAt
namespace Go.Proofs.YtecigfjnpikbjaaDoor
open Go.RowKit Go.Shelf
attribute [local go_sem] Oper.semAt_some
/-- Blocks of words lie on. -/
def KeepsU (W W' : World) : Prop := ∀ (b : Nat) (cs : Array Value) (fr : Nat × Nat), W.heap[b]? = some (.cells cs 55 fr) → W'.heap[b]? = some (.cells cs 55 fr)
/-- What a round of the loop keeps. -/
def Kp5 (n₀ : Nat) (W W' : World) : Prop := Below n₀ W W' ∧ KeepsU W W'
theorem Kp5.trans {n₀ : Nat} {A B C : World} (h : Kp5 n₀ A B) (k : Kp5 n₀ B C) : Kp5 n₀ A C := ⟨h.1.trans k.1, fun b cs fr hb => k.2 b cs fr (h.2 b cs fr hb)⟩
theorem Kp5.refl (n₀ : Nat) (A : World) : Kp5 n₀ A A := ⟨Below.refl _ _, fun _ _ _ h => h⟩
theorem kp5_b {n₀ : Nat} {w : World} (hn : n₀ ≤ w.heap.size) (W : World) (l : Nat) (o o' : Obj) (hl : w.heap.size ≤ l) (h : W.heap[l]? = some o) (hc : o.isCells = false) (hw : o.isWalk = false) : Kp5 n₀ W (W.putObj l o') := by
  refine ⟨belowK_b hn W l o o' hl h hc hw, fun b cs fr hb => ?_⟩
  have hne : b ≠ l := by
    rintro rfl
    rw [h] at hb
    cases hb
    cases hc
  exact (World.putObj_heap_other (fun e => hne e)).trans hb
theorem Tryd.infoI64x : (Tryd.prog.info? 3).map (fun i => (i.zero, i.size, i.bytes)) = some (some (.int .i64 0), 1, 8) := by kernel_rfl
theorem eqlf (w : World) (lb : Array Value) : (binOp .eql 57 (.func (.func 29) #[] lb) .nilFunc).run Tryd.prog w = .ok (.bool false) w := by kernel_rfl
set_option maxHeartbeats 1000000 in
/-- m.All(): the receiver is boxed; the function value captures the box. -/
theorem mAll_any (p0 : Option Addr) (w : World) :
    Calls Tryd.prog 26 #[.pointer p0] w fun e w' => e = .returned (.func (.func 29) #[] #[.pointer (some ⟨w.heap.size, 0, none⟩)]) ∧ w' = w.alloc (.cells #[.pointer p0] 25) := by
  go_enter Tryd.func26, Tryd.ntmps26
  go_wp2
  go_ret
  exact ⟨rfl, rfl⟩
/-- A block of words behind an append to a row of ints. -/
theorem keepsU_append {W w1 : World} {tmp : Obj} {base k : Nat} {v v' : Value} {xs : List Value} {gB : Nat} {vb : Value} (hrow : W.ownsRow base 3 1 v k xs) (hgrow : (W.alloc tmp).grownBy w1 v.ownBlock) (hbox : Boxed W gB 43 vb) : KeepsU W (w1.setCell ⟨gB, 0, none⟩ v') := by
  intro b cs fr hb
  have hlt : b < W.heap.size := (Array.getElem?_eq_some_iff.1 hb).1
  have h1 : (W.alloc tmp).heap[b]? = some (.cells cs 55 fr) := (Below.heap_alloc W tmp b hlt).trans hb
  have hne : some b ≠ v.ownBlock := by
    intro e
    rcases hrow.2 with ⟨rfl, _⟩ | ⟨g, cap, cur, rfl, _, hgb, _⟩
    · cases e
    · obtain rfl : b = g := by simpa [Value.ownBlock] using e
      rw [hb] at hgb
      cases hgb
  have hneB : b ≠ gB := by
    rintro rfl
    have h := hbox
    unfold Boxed at h
    rw [hb] at h
    cases h
  refine ((grownBy_setCell' w1 gB v').block b ?_ (fun e => hneB (by cases e; rfl))).trans ((hgrow.block b (by rw [World.size_alloc]; omega) hne).trans h1)
  have := hgrow.size
  rw [World.size_alloc] at this
  omega
set_option maxRecDepth 100000 in
set_option maxHeartbeats 4000000 in
theorem all_core (p0 : Option Addr) (xs : List Int) (hlen : xs.length ≤ 100000) (w : World)
    (hseq : ∀ W : World, Below w.heap.size w W → w.heap.size + 2 < W.heap.size → W.cell? ⟨w.heap.size + 2, 0, none⟩ = some (.pointer p0) → SeqStopsK Fence.wide 4 Tryd.prog 29 #[.pointer (some ⟨w.heap.size + 2, 0, none⟩)] (fun x : Int => #[Value.int .i64 x]) (Kp5 w.heap.size) (fun ys => ys = xs) (fun pre => pre <+: xs) xs.length W) :
    Calls Tryd.prog 20 #[.pointer p0] w fun e w' => ∃ v, e = .returned v ∧ w'.ownsRow w.heap.size 3 1 v xs.length (xs.map (Value.int .i64)) ∧ Below w.heap.size w w' := by
  refine (callsIn_wide (n := 5)).1 ?_
  have hro : Fence.wide.round = none := rfl
  obtain ⟨i0, hi, hz0, hz1, hz2⟩ := info_parts Tryd.infoI64x
  have heq := eqlf
  refine callsIn_of_wp_marks Tryd.func20 rfl trivial ?_ hro
  simp only [Tryd.ntmps20, List.size_toArray, List.length_cons, List.length_nil, Nat.reduceAdd, Nat.reduceSub, Array.replicate_succ, Array.replicate_zero, List.push_toArray, List.append_toArray, List.nil_append, List.cons_append]
  gi_wp2_with (refine ⟨trivial, ?_⟩; gi_at_call 26; refine (callsIn_wide.2 (mAll_any p0 _)).mono ?_; rintro e w' ⟨rfl, rfl⟩)
  have bO := Boxed.new w 43 (.slice none 0 0)
  have bN := Boxed.new ((w.alloc (.cells #[.slice none 0 0] 43)).alloc (.cells #[.pointer p0] 25)) 25 (.pointer p0)
  rw [World.size_alloc, World.size_alloc] at bN
  have hB0 : Below w.heap.size w (((w.alloc (.cells #[.slice none 0 0] 43)).alloc (.cells #[.pointer p0] 25)).alloc (.cells #[.pointer p0] 25)) := (((Below.refl _ w).alloc (Nat.le_refl _) _).alloc (by simp) _).alloc (by simp; omega) _
  refine wpIn_rangeFunc_ownG hro (by decide) (gf := 29) (lb := #[.pointer (some ⟨w.heap.size + 2, 0, none⟩)]) rfl trivial (enters_of Tryd.func29 (by kernel_rfl) rfl)
    (hseq _ hB0 (by simp) bN.cell) (fun h k => Kp5.trans h k) (kp5_b (by simp; omega)) (Below.refl _ _) (fun _ => rfl)
    (fun pre W => (∃ v, Boxed W w.heap.size 43 v ∧ W.ownsRow w.heap.size 3 1 v pre.length (pre.map (Value.int .i64)) ∧ True) ∧ Below w.heap.size w W)
    (fun _ _ _ => False)
    (OwnFrom.and (Go.Own.from (holdsRow_own w.heap.size w.heap.size 43 3 1 (fun pre : List Int => pre.length) (fun pre => pre.map (Value.int .i64)) (fun _ _ => True)) _) (ownFrom_below (Nat.le_refl _) (by simp; omega)))
    (fun _ _ _ _ _ hs _ _ => hs)
    ⟨⟨_, (bO.alloc _).alloc _, World.ownsRow_nil _ _ _ _, trivial⟩, hB0⟩
    (fun x => { tmps := #[.pointer p0, undef, .slice none 0 0, .pointer (some ⟨w.heap.size, 0, none⟩), .int .i64 x, .pointer p0, .func (.func 29) #[] #[.pointer (some ⟨w.heap.size + 1, 0, none⟩)], .bool false, undef, .pointer p0, .func (.func 29) #[] #[.pointer (some ⟨w.heap.size + 2, 0, none⟩)], .int .i64 x, undef, undef, undef, undef, undef], defers := [] }) ?assign ?body ?done ?stop
  case assign =>
    intro l x W K hK
    gi_wp2
    exact hK
  case body =>
    rintro l pre x W ⟨⟨v, hv, hrow, _⟩, hB⟩ hlt
    have hc := hv.cell
    gi_wp2_with (gi_at_builtin; refine wpListIn_append_own _ rfl _ _ 43 rfl w.heap.size 3 i0 (.int .i64 0) 1 8 Tryd.underlying43 hi hz0 hz1 hz2 rfl (by decide) _ _ _ rfl (hrow.alloc _) ⟨W.heap.size, 0, none⟩ 1 1 [.int .i64 x] rfl rfl (cell_one_new _ _ _) (by simp [Value.oneCell']) (by unfold maxLen; omega) (by omega) (by have := hB.size; simp; omega) ?_; intro v' w1 hown' hgrow _; obtain ⟨g', cap', rfl⟩ := ownsRow_succ hown'; obtain ⟨hv1, hv2, hr2, hk2, hb2⟩ := hv.appended (by decide) hrow hB.size (Nat.le_refl _) hown' hgrow; have hku := keepsU_append (v' := .slice (some ⟨g', 0, none⟩) (pre.length + 1) cap') hrow hgrow hv; have hc1 := hv1.cell; have hf1 := hv1.frozen)
    exact ⟨hk2.from _, ⟨hb2, hku⟩, ⟨_, hv2, by simpa using hr2, trivial⟩, hB.trans hb2⟩
  case done =>
    rintro D ys W hD rfl ⟨⟨v, hv, hrow, _⟩, hB⟩ hK
    have hc := hv.cell
    gi_wp2
    refine ⟨by simp, .inl ⟨_, _, rfl, run_takeDeferred hK, ?_⟩⟩
    exact ⟨_, results_tmp rfl _ _ _, v, rfl, ownsRow_putObj hrow _ hK rfl, hB.trans (belowK_b (w := w) (Nat.le_refl _) W D _ _ (by simp at hD; omega) hK rfl rfl)⟩
  case stop =>
    rintro D c pre W _ _ h _
    exact h.elim
/-- all of a nil map. -/
theorem iter_nil (Bn n₀ : Nat) (w : World) (hBn : Bn < w.heap.size) (hc : w.cell? ⟨Bn, 0, none⟩ = some (.pointer none)) :
    SeqStopsK Fence.wide 4 Tryd.prog 29 #[.pointer (some ⟨Bn, 0, none⟩)] (fun x : Int => #[Value.int .i64 x]) (Kp5 n₀) (fun ys => ys = []) (fun pre => pre <+: []) ([] : List Int).length w := by
  intro l J Jx W hW _ _ _ h0
  have hc' := (hW.cell (p := ⟨Bn, 0, none⟩) hBn).trans hc
  refine callsIn_of_wp Tryd.func29 rfl trivial ?_ rfl
  simp only [Tryd.ntmps29, List.size_toArray, List.length_cons, List.length_nil, Nat.reduceAdd, Nat.reduceSub, Array.replicate_succ, Array.replicate_zero, List.push_toArray, List.append_toArray, List.nil_append, List.cons_append]
  gi_wp2
  refine bodyPost_ret (results_none rfl _ _ _) rfl ?_
  exact ⟨⟨_, rfl⟩, .inl h0⟩
theorem all_nil (w : World) : Calls Tryd.prog 20 #[.pointer none] w fun e w' => ∃ A c, e = .returned (.slice A 0 c) ∧ Below w.heap.size w w' := by
  refine (all_core none [] (by simp) w fun W _ h2 h3 => iter_nil _ _ W h2 h3).mono ?_
  rintro e w' ⟨v, rfl, hrow, hb⟩
  rcases hrow.2 with ⟨rfl, _⟩ | ⟨g, cap, cur, rfl, _⟩
  · exact ⟨_, _, rfl, hb⟩
  · exact ⟨_, _, rfl, hb⟩
end Go.Proofs.YtecigfjnpikbjaaDoor

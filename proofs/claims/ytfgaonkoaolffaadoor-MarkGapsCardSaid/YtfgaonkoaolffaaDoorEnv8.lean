/-
  Chapter 8: flow.open; what the closures of flow.Gap look at, in memory; its depth-first walk begun. Conditions: the function lies in memory.
-/
import Derived.Test.YtfgaonkoaolffaaDoorNxt8
import Derived.Test.YtfgaonkoaolffaaDoorSchE
import Derived.Laws.EntriesVeiled
namespace Go.Proofs.YtfgaonkoaolffaaDoor
open Go.RowKit
/-- An open place. -/
def openB (safe : List Bool) (k : Nat) : Bool := decide (0 < k) && !(safe.getD k false)
def SB8 (w w' : World) : Prop := Below w.heap.size w w'
theorem safe_cell {w : World} {B : Nat} {S : Option Addr} {ss : List Bool} (h : Row w B S (boolVals ss)) (k : Nat) (hk : k < ss.length) : ∃ b off, S = some ⟨b, off, none⟩ ∧ b < B ∧ w.cell? ⟨b, off + k, none⟩ = some (.bool (ss.getD k false)) := by
  obtain ⟨b, off, e, hb, hc⟩ := h.at_ (k := k) (by simpa [boolVals] using hk)
  refine ⟨b, off, e, hb, ?_⟩
  rw [hc k _ (boolVals_at ss k hk)]
  simp [hk]
set_option maxHeartbeats 1000000 in
theorem open_any {w : World} {C S : Option Addr} {n c m d : Nat} {f : Fn} (hf : FnOk w w.heap.size ⟨C, n, c, S, m, d⟩ f) (k : Nat) :
    Calls Tryd.prog 35 #[.agg #[.slice C n c, .slice S m d], .int .i64 k] w fun e w' => e = .returned (.bool (openB f.safe k)) ∧ Below w.heap.size w w' := by
  have HB := Lib.hid ((Below.refl w.heap.size w).alloc (Nat.le_refl _) (.cells #[.slice C n c, .slice S m d] 39))
  have hm : m = f.safe.length := hf.2.1
  by_cases h0 : 0 < k
  · by_cases hk : k < m
    · obtain ⟨b, off, rfl, hb, hc⟩ := safe_cell (((hf.below HB.out).more HB.out.size).2.2.2.1) k (by omega)
      have HO := Lib.hid (show openB f.safe k = !(f.safe.getD k false) by unfold openB; rw [decide_eq_true h0]; rfl)
      obtain ⟨v, HV⟩ : ∃ v, Hid (v = f.safe.getD k false) := ⟨_, Lib.hid rfl⟩
      rw [← HV.out] at hc HO
      rw [HO.out]
      have h1 : decide (0 < k) = true := decide_eq_true h0
      have h2 : decide (m ≤ k) = false := decide_eq_false (by omega)
      clear hf hm h0 HO
      go_enter Tryd.func35, Tryd.ntmps35
      go_wp2_with fail
      go_ret
      exact ⟨rfl, HB.out⟩
    · have HO : openB f.safe k = true := by
        unfold openB
        rw [decide_eq_true h0, getB_big (by omega)]
        rfl
      rw [HO]
      have h1 : decide (0 < k) = true := decide_eq_true h0
      have h2 : decide (m ≤ k) = true := decide_eq_true (by omega)
      clear hf hm h0 HO hk
      go_enter Tryd.func35, Tryd.ntmps35
      go_wp2_with fail
      go_ret
      exact ⟨rfl, HB.out⟩
  · have e : k = 0 := by omega
    subst e
    have HO : openB f.safe 0 = false := rfl
    rw [HO]
    clear hf hm HO h0
    go_enter Tryd.func35, Tryd.ntmps35
    go_wp2_with fail
    go_ret
    exact ⟨rfl, HB.out⟩
/-- Nothing but blocks of L, and new ones, was written. -/
structure Mv (L : List Nat) (w w' : World) : Prop where
  os : w'.os = w.os
  tape : w'.tape = w.tape
  output : w'.output = w.output
  size : w.heap.size ≤ w'.heap.size
  block : ∀ k, k < w.heap.size → k ∉ L → w'.heap[k]? = w.heap[k]?
theorem Mv.refl (L : List Nat) (w : World) : Mv L w w := ⟨rfl, rfl, rfl, Nat.le_refl _, fun _ _ _ => rfl⟩
theorem Mv.trans {L : List Nat} {a b c : World} (h : Mv L a b) (k : Mv L b c) : Mv L a c :=
  ⟨k.os.trans h.os, k.tape.trans h.tape, k.output.trans h.output, Nat.le_trans h.size k.size, fun i hi hn => (k.block i (Nat.lt_of_lt_of_le hi h.size) hn).trans (h.block i hi hn)⟩
theorem Mv.of_below {L : List Nat} {w w' : World} {B : Nat} (h : Below B w w') (hB : w.heap.size ≤ B) : Mv L w w' := ⟨h.os, h.tape, h.output, h.size, fun k hk _ => h.block k (by omega)⟩
theorem Mv.low {L : List Nat} {w w' : World} {B : Nat} (h : Mv L w w') (hB : B ≤ w.heap.size) (hl : ∀ k ∈ L, B ≤ k) : Below B w w' :=
  ⟨h.os, h.tape, h.output, h.size, fun k hk => h.block k (by omega) (fun hL => by have := hl k hL; omega)⟩
theorem Mv.blk {L : List Nat} {w w' : World} {g : Nat} {t : TypeId} {cs : Array Value} (h : Mv L w w') (hb : Blk w g t cs) (hg : g ∉ L) : Blk w' g t cs := (h.block g hb.lt hg).trans hb
theorem Mv.set {L : List Nat} {w w' : World} (h : Mv L w w') (p : Addr) (v : Value) (hp : p.block ∈ L) : Mv L w (w'.setCell p v) :=
  h.trans ⟨rfl, rfl, rfl, by simp [World.setCell], fun k hk hn => Below.heap_setCell w' p v k (fun e => hn (e ▸ hp))⟩
theorem own_mv {L : List Nat} {w w' : World} {base size n c : Nat} {e : TypeId} {A : Option Addr} {xs : List Value} (h : Own w base e size A n c xs) (hm : Mv L w w') (hl : ∀ b, ob A = some b → b ∉ L) : Own w' base e size A n c xs := by
  refine ⟨h.1, ?_⟩
  rcases h.2 with h2 | ⟨g, cap, cur, hv, hb, hg, rest⟩
  · exact .inl h2
  · have hA : ob A = some g := by
      injection hv with hv
      rw [hv]
      rfl
    exact .inr ⟨g, cap, cur, hv, hb, hm.blk hg (hl g hA), rest⟩
theorem blk_ne {w : World} {g h : Nat} {t u : TypeId} {xs ys : Array Value} (a : Blk w g t xs) (b : Blk w h u ys) (hn : t ≠ u) : g ≠ h := by
  rintro rfl
  unfold Blk at a b
  rw [a] at b
  injection b with b
  injection b with _ b
  exact hn b
def u8s (l : List Nat) : Array Value := (l.map fun (k : Nat) => Value.int .u8 (k : Int)).toArray
def nis (l : List Nat) : Array Value := (l.map fun (k : Nat) => Value.int .i64 (k : Int)).toArray
theorem u8s_at (l : List Nat) (k : Nat) (h : k < l.length) : (u8s l)[k]? = some (.int .u8 (l.getD k 0)) := by simp [u8s, h]
theorem nis_at (l : List Nat) (k : Nat) (h : k < l.length) : (nis l)[k]? = some (.int .i64 (l.getD k 0)) := by simp [nis, h]
theorem u8s_set (l : List Nat) (k v : Nat) : (u8s l).setIfInBounds k (.int .u8 v) = u8s (l.set k v) := by simp [u8s, List.map_set]
theorem nis_set (l : List Nat) (k v : Nat) : (nis l).setIfInBounds k (.int .i64 v) = nis (l.set k v) := by simp [nis, List.map_set]
/-- The closure's own boxes, the marks and how long rows are. -/
structure GE (w : World) (m0 fb mb wb lb mk lk : Nat) (C S : Option Addr) (n c sm d : Nat) (f : Fn) (ms ls : List Nat) : Prop where
  fbx : Blk w fb 39 #[.slice C n c, .slice S sm d]
  mbx : Blk w mb 58 #[.slice (some ⟨mk, 0, none⟩) n n]
  wbx : Blk w wb 57 #[.func (.func 34) #[] #[.pointer (some ⟨fb, 0, none⟩), .pointer (some ⟨mb, 0, none⟩), .pointer (some ⟨wb, 0, none⟩), .pointer (some ⟨lb, 0, none⟩)]]
  lbx : Blk w lb 51 #[.slice (some ⟨lk, 0, none⟩) n n]
  mr : Blk w mk 5 (u8s ms)
  lr : Blk w lk 3 (nis ls)
  fn : FnOk w m0 ⟨C, n, c, S, sm, d⟩ f
  tab : Tab w
  pos : 0 < m0
  lmk : m0 ≤ mk
  llk : m0 ≤ lk
  top : m0 ≤ w.heap.size
section
variable {w w' : World} {m0 fb mb wb lb mk lk : Nat} {C S : Option Addr} {n c sm d : Nat} {f : Fn} {ms ls ms' ls' : List Nat}
theorem GE.ne (h : GE w m0 fb mb wb lb mk lk C S n c sm d f ms ls) : fb ∉ [mk, lk] ∧ mb ∉ [mk, lk] ∧ wb ∉ [mk, lk] ∧ lb ∉ [mk, lk] ∧ mk ≠ lk := by
  have h1 := blk_ne h.fbx h.mr (by decide)
  have h2 := blk_ne h.fbx h.lr (by decide)
  have h3 := blk_ne h.mbx h.mr (by decide)
  have h4 := blk_ne h.mbx h.lr (by decide)
  have h5 := blk_ne h.wbx h.mr (by decide)
  have h6 := blk_ne h.wbx h.lr (by decide)
  have h7 := blk_ne h.lbx h.mr (by decide)
  have h8 := blk_ne h.lbx h.lr (by decide)
  have h9 := blk_ne h.mr h.lr (by decide)
  simp_all
theorem GE.mv (h : GE w m0 fb mb wb lb mk lk C S n c sm d f ms ls) (hm : Mv [mk, lk] w w') (hr : Blk w' mk 5 (u8s ms')) (hl : Blk w' lk 3 (nis ls')) : GE w' m0 fb mb wb lb mk lk C S n c sm d f ms' ls' := by
  obtain ⟨h1, h2, h3, h4, h5⟩ := h.ne
  have hb : Below m0 w w' := hm.low h.top (by intro k hk; simp at hk; rcases hk with rfl | rfl; exact h.lmk; exact h.llk)
  exact ⟨hm.blk h.fbx h1, hm.blk h.mbx h2, hm.blk h.wbx h3, hm.blk h.lbx h4, hr, hl, h.fn.below hb, h.tab.keep hb h.pos, h.pos, h.lmk, h.llk, Nat.le_trans h.top hm.size⟩
theorem GE.step (h : GE w m0 fb mb wb lb mk lk C S n c sm d f ms ls) (hb : Below w.heap.size w w') : GE w' m0 fb mb wb lb mk lk C S n c sm d f ms ls :=
  h.mv (.of_below hb (Nat.le_refl _)) (h.mr.below hb h.mr.lt) (h.lr.below hb h.lr.lt)
theorem GE.setM (h : GE w m0 fb mb wb lb mk lk C S n c sm d f ms ls) (k v : Nat) : GE (w.setCell ⟨mk, k, none⟩ (.int .u8 v)) m0 fb mb wb lb mk lk C S n c sm d f (ms.set k v) ls := by
  refine h.mv ((Mv.refl _ w).set _ _ (by simp)) ?_ (h.lr.far (Ne.symm h.ne.2.2.2.2) _)
  rw [← u8s_set]
  exact h.mr.set_ k _
theorem GE.setL (h : GE w m0 fb mb wb lb mk lk C S n c sm d f ms ls) (k v : Nat) : GE (w.setCell ⟨lk, k, none⟩ (.int .i64 v)) m0 fb mb wb lb mk lk C S n c sm d f ms (ls.set k v) := by
  refine h.mv ((Mv.refl _ w).set _ _ (by simp)) (h.mr.far h.ne.2.2.2.2 _) ?_
  rw [← nis_set]
  exact h.lr.set_ k _
end
end Go.Proofs.YtfgaonkoaolffaaDoor

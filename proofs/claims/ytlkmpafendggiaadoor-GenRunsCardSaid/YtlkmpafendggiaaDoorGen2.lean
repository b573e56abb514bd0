/-
  Chapter 33: contracts of gen.Rounds, Chain, Guard. Condition: the table is laid.
-/
import Derived.Test.YtlkmpafendggiaaDoorGen
namespace Go.Proofs.YtlkmpafendggiaaDoor
open Go.RowKit
/-- The blocks that are there, but for g and G's. -/
def Offn (w : World) (g : Nat) (G : Option Addr) (b : Nat) : Prop := b < w.heap.size ∧ b ≠ g ∧ ob G ≠ some b
theorem FnsAt.below_n {wr w1 : World} {g : Nat} {G : Option Addr} {al : List FnA} {fs : List Fn} (h : FnsAt wr (Offn wr g G) al fs) (hb : Below wr.heap.size wr w1) : FnsAt w1 (Offn w1 g G) al fs :=
  (h.keep fun b hS => hb.block b hS.1).mono fun _ hS => ⟨Nat.lt_of_lt_of_le hS.1 hb.size, hS.2⟩
theorem row_new (w : World) (t : TypeId) (cs : Array Value) : Row (w.alloc (.cells cs t)) (w.heap.size + 1) (some ⟨w.heap.size, 0, none⟩) cs.toList := row_of_blk (Blk.new w t cs) (Nat.lt_succ_self _)
/-- A maker in memory: its program is gs. -/
structure Maker (w : World) (g : Nat) (v0 : Value) (G : Option Addr) (cG : Nat) (al : List FnA) (gs : List Fn) : Prop where
  blk : Blk w g 77 #[v0, .slice G gs.length cG]
  own : Own w (g + 1) 41 2 G gs.length cG (al.flatMap fnaVals)
  fns : FnsAt w (Offn w g G) al gs
section
variable {w w' : World} {g : Nat} {v0 : Value} {G C : Option Addr} {cG n c i : Nat} {al : List FnA} {gs : List Fn} {codes : List Ins}
theorem own_below' {base : Nat} {e : TypeId} {size n c : Nat} {A : Option Addr} {xs : List Value} (h : Own w base e size A n c xs) (hb : Below w.heap.size w w') : Own w' base e size A n c xs := by
  refine h.kept (grown_below hb none) ?_
  cases A with
  | none => exact .inl rfl
  | some q => right; intro h; cases h
theorem Maker.below (M : Maker w g v0 G cG al gs) (hb : Below w.heap.size w w') : Maker w' g v0 G cG al gs := ⟨M.blk.below hb M.blk.lt, own_below' M.own hb, M.fns.below_n hb⟩
theorem Maker.start (w : World) (v0 : Value) : Maker (w.alloc (.cells #[v0, .slice none 0 0] 77)) w.heap.size v0 none 0 [] [] := ⟨Blk.new _ _ _, Own.nil _ _ _ _, FnsAt.nil _ _⟩
/-- The blocks that a call has made since stay off the maker's. -/
theorem Maker.off (M : Maker w g v0 G cG al gs) (b : Nat) (h1 : w.heap.size ≤ b) (h2 : b < w'.heap.size) : Offn w' g G b :=
  ⟨h2, Nat.ne_of_gt (Nat.lt_of_lt_of_le M.blk.lt h1), fun e => by have := (M.own.lt b e).2; omega⟩
theorem Maker.put (M : Maker w g v0 G cG al gs) (hr : RowS w (Offn w g G) C (codes.flatMap insVals)) (hn : codes.length = n) (hn2 : n ≤ 100) (hok : ∀ i ∈ codes, InsOk i) (P : Put w w' g v0 G gs.length (al.flatMap fnaVals) C n c) :
    ∃ G' cG', Maker w' g v0 G' cG' (al ++ [⟨C, n, c, some ⟨w.heap.size, 0, none⟩, n, n⟩]) (gs ++ [⟨codes, List.replicate n false⟩]) := by
  obtain ⟨G', cG', p1, p2, p3, p4, p5, p6, p7⟩ := P
  have hmx : n ≤ maxLen := by unfold maxLen; omega
  have hgl := M.blk.lt
  have hG' : ∀ b, b < w.heap.size → ob G ≠ some b → ob G' ≠ some b := fun b hb h e => by
    rcases p4 with q | q
    · exact h (q ▸ e)
    · rw [q] at e; injection e with e; omega
  have hoff : ∀ b, Offn w g G b → Offn w' g G' b := fun b h => ⟨Nat.lt_trans h.1 p6, h.2.1, hG' b h.1 h.2.2⟩
  have hkeep : ∀ b, Offn w g G b → w'.heap[b]? = w.heap[b]? := fun b h => p7 b h.1 h.2.1 h.2.2
  refine ⟨G', cG', ⟨by simpa using p1, ?_, ((M.fns.keep hkeep).mono hoff).snoc ⟨hn.symm, by simp, (hr.keep hkeep).mono hoff, ?_, hmx, hmx, hok⟩⟩⟩
  · rw [List.flatMap_append]
    simpa [fnaVals] using p2
  · have h := Blk.rowS (xs := boolVals (List.replicate n false)) (by simpa [boolVals] using p3)
    refine h.mono fun b hb => ?_
    subst hb
    refine ⟨p6, Nat.ne_of_gt hgl, fun e => ?_⟩
    rcases p4 with q | q
    · rw [q] at e
      have := (M.own.lt _ e).2
      omega
    · rw [q] at e; injection e with e; omega
/-- The same, and one place of it made safe. -/
theorem Maker.put_set (M : Maker w g v0 G cG al gs) (hr : RowS w (Offn w g G) C (codes.flatMap insVals)) (hn : codes.length = n) (hn2 : n ≤ 100) (hok : ∀ i ∈ codes, InsOk i) (P : Put w w' g v0 G gs.length (al.flatMap fnaVals) C n c) (i : Nat) :
    ∃ G' cG', Blk w' g 77 #[v0, .slice G' (gs.length + 1) cG'] ∧ Own w' (g + 1) 41 2 G' (gs.length + 1) cG' (al.flatMap fnaVals ++ [.slice C n c, .slice (some ⟨w.heap.size, 0, none⟩) n n]) ∧ Blk w' w.heap.size 4 (List.replicate n (.bool false)).toArray ∧
      Maker (w'.setCell ⟨w.heap.size, i, none⟩ (.bool true)) g v0 G' cG' (al ++ [⟨C, n, c, some ⟨w.heap.size, 0, none⟩, n, n⟩]) (gs ++ [⟨codes, (List.replicate n false).set i true⟩]) ∧ Below g w w' := by
  obtain ⟨G', cG', p1, p2, p3, p4, p5, p6, p7⟩ := P
  have hmx : n ≤ maxLen := by unfold maxLen; omega
  have hgl := M.blk.lt
  have hG' : ∀ b, b < w.heap.size → ob G ≠ some b → ob G' ≠ some b := fun b hb h e => by
    rcases p4 with q | q
    · exact h (q ▸ e)
    · rw [q] at e; injection e with e; omega
  have hGS : ob G' ≠ some w.heap.size := fun e => by
    rcases p4 with q | q
    · rw [q] at e
      have := (M.own.lt _ e).2
      omega
    · rw [q] at e; injection e with e; omega
  have hs : (w'.setCell ⟨w.heap.size, i, none⟩ (.bool true)).heap.size = w'.heap.size := by simp [World.setCell]
  have hoff : ∀ b, Offn w g G b → Offn (w'.setCell ⟨w.heap.size, i, none⟩ (.bool true)) g G' b := fun b h => ⟨by rw [hs]; exact Nat.lt_trans h.1 p6, h.2.1, hG' b h.1 h.2.2⟩
  have hkeep : ∀ b, Offn w g G b → (w'.setCell ⟨w.heap.size, i, none⟩ (.bool true)).heap[b]? = w.heap[b]? := fun b h => (Below.heap_setCell _ _ _ _ (show b ≠ w.heap.size from Nat.ne_of_lt h.1)).trans (p7 b h.1 h.2.1 h.2.2)
  refine ⟨G', cG', p1, p2, p3, ⟨?_, ?_, ((M.fns.keep hkeep).mono hoff).snoc ⟨hn.symm, by simp, (hr.keep hkeep).mono hoff, ?_, hmx, hmx, hok⟩⟩, p5⟩
  · simpa using p1.far (p := ⟨w.heap.size, i, none⟩) (show g ≠ w.heap.size by omega) (.bool true)
  · rw [List.flatMap_append, List.length_append]
    simpa [fnaVals] using p2.setCell ⟨w.heap.size, i, none⟩ (.bool true) (.inr hGS)
  · have h0 := p3.set_ i (.bool true)
    rw [List.setIfInBounds_toArray] at h0
    have h := Blk.rowS (xs := boolVals ((List.replicate n false).set i true)) (by simpa [boolVals, List.map_set] using h0)
    refine h.mono fun b hb => ?_
    subst hb
    exact ⟨by rw [hs]; exact p6, Nat.ne_of_gt hgl, hGS⟩
end
end Go.Proofs.YtlkmpafendggiaaDoor

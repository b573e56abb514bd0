/-
  Programs of the bytecode that a call builds: rows in blocks of a set, kept while blocks outside of it are written. No function of the program in sight.
-/
import Derived.Test.YtfgaonkoaolffaaDoorFns
import Derived.Test.YtfgaonkoaolffaaDoorOwn
namespace Go.Proofs.YtfgaonkoaolffaaDoor
open Go.RowKit
/-- The cells xs lie from A on, in a block of S (any A, if there are none). -/
def RowS (w : World) (S : Nat → Prop) (A : Option Addr) (xs : List Value) : Prop :=
  xs = [] ∨ ∃ b off, A = some ⟨b, off, none⟩ ∧ S b ∧ ∀ j u, xs[j]? = some u → w.cell? ⟨b, off + j, none⟩ = some u
theorem RowS.keep {w w' : World} {S : Nat → Prop} {A : Option Addr} {xs : List Value} (h : RowS w S A xs) (hk : ∀ b, S b → w'.heap[b]? = w.heap[b]?) : RowS w' S A xs := by
  rcases h with h | ⟨b, off, e, hb, hc⟩
  · exact .inl h
  · exact .inr ⟨b, off, e, hb, fun j u hu => (World.cell?_of_block (w := w) (hk b hb)).trans (hc j u hu)⟩
theorem RowS.mono {w : World} {S S' : Nat → Prop} {A : Option Addr} {xs : List Value} (h : RowS w S A xs) (hS : ∀ b, S b → S' b) : RowS w S' A xs := by
  rcases h with h | ⟨b, off, e, hb, hc⟩
  · exact .inl h
  · exact .inr ⟨b, off, e, hS b hb, hc⟩
theorem RowS.row {w : World} {S : Nat → Prop} {A : Option Addr} {xs : List Value} {B : Nat} (h : RowS w S A xs) (hS : ∀ b, S b → b < B) : Row w B A xs := h.mono hS
theorem Row.rowS {w : World} {B : Nat} {A : Option Addr} {xs : List Value} (h : Row w B A xs) : RowS w (fun b => b < B) A xs := h
theorem Own.rowS {w : World} {base : Nat} {e : TypeId} {size : Nat} {A : Option Addr} {n c : Nat} {xs : List Value} (h : Own w base e size A n c xs) : RowS w (fun b => base ≤ b ∧ b < w.heap.size) A xs := by
  rcases h.rowN with h0 | ⟨b, off, e, hb, hc⟩
  · exact .inl h0
  · exact .inr ⟨b, off, e, ⟨(h.lt b (by rw [e]; rfl)).1, hb⟩, hc⟩
theorem Blk.rowS {w : World} {g : Nat} {t : TypeId} {xs : List Value} (h : Blk w g t xs.toArray) : RowS w (fun b => b = g) (some ⟨g, 0, none⟩) xs := by
  refine .inr ⟨g, 0, rfl, rfl, fun j u hu => ?_⟩
  rw [Nat.zero_add, h.cell j]
  simpa using hu
/-- A function lies in memory, in blocks of S. -/
def FnS (w : World) (S : Nat → Prop) (a : FnA) (f : Fn) : Prop :=
  a.n = f.code.length ∧ a.m = f.safe.length ∧ RowS w S a.C (f.code.flatMap insVals) ∧ RowS w S a.S (boolVals f.safe) ∧ a.n ≤ maxLen ∧ a.m ≤ maxLen ∧ ∀ i ∈ f.code, InsOk i
theorem FnS.keep {w w' : World} {S : Nat → Prop} {a : FnA} {f : Fn} (h : FnS w S a f) (hk : ∀ b, S b → w'.heap[b]? = w.heap[b]?) : FnS w' S a f :=
  ⟨h.1, h.2.1, h.2.2.1.keep hk, h.2.2.2.1.keep hk, h.2.2.2.2⟩
theorem FnS.mono {w : World} {S S' : Nat → Prop} {a : FnA} {f : Fn} (h : FnS w S a f) (hS : ∀ b, S b → S' b) : FnS w S' a f := ⟨h.1, h.2.1, h.2.2.1.mono hS, h.2.2.2.1.mono hS, h.2.2.2.2⟩
theorem FnS.ok {w : World} {S : Nat → Prop} {a : FnA} {f : Fn} {B : Nat} (h : FnS w S a f) (hS : ∀ b, S b → b < B) : FnOk w B a f := h.mono hS
/-- Functions, one behind the other, in blocks of S. -/
def FnsAt (w : World) (S : Nat → Prop) (al : List FnA) (fs : List Fn) : Prop := al.length = fs.length ∧ ∀ i (h : i < al.length) (h' : i < fs.length), FnS w S al[i] fs[i]
theorem FnsAt.nil (w : World) (S : Nat → Prop) : FnsAt w S [] [] := ⟨rfl, fun i h => by simp at h⟩
theorem FnsAt.keep {w w' : World} {S : Nat → Prop} {al : List FnA} {fs : List Fn} (h : FnsAt w S al fs) (hk : ∀ b, S b → w'.heap[b]? = w.heap[b]?) : FnsAt w' S al fs := ⟨h.1, fun i x y => (h.2 i x y).keep hk⟩
theorem FnsAt.mono {w : World} {S S' : Nat → Prop} {al : List FnA} {fs : List Fn} (h : FnsAt w S al fs) (hS : ∀ b, S b → S' b) : FnsAt w S' al fs := ⟨h.1, fun i x y => (h.2 i x y).mono hS⟩
theorem FnsAt.snoc {w : World} {S : Nat → Prop} {al : List FnA} {fs : List Fn} {a : FnA} {f : Fn} (h : FnsAt w S al fs) (hf : FnS w S a f) : FnsAt w S (al ++ [a]) (fs ++ [f]) := by
  refine ⟨by simp [h.1], fun i hi hi' => ?_⟩
  by_cases hlt : i < al.length
  · have hlt' : i < fs.length := by have := h.1; omega
    rw [List.getElem_append_left hlt, List.getElem_append_left hlt']
    exact h.2 i hlt hlt'
  · have e : i = al.length := by simp at hi; omega
    subst e
    have := h.1
    rw [List.getElem_append_right (by omega), List.getElem_append_right (by omega)]
    simpa using hf
theorem FnsAt.ok {w : World} {S : Nat → Prop} {A : Option Addr} {al : List FnA} {fs : List Fn} {B : Nat} (h : FnsAt w S al fs) (hS : ∀ b, S b → b < B) (hr : Row w B A (al.flatMap fnaVals)) : FnsOk w B A fs :=
  ⟨al, h.1, fun i x y => (h.2 i x y).ok hS, hr⟩
/-- The blocks behind g, but for G's. -/
def Off (w : World) (g : Nat) (G : Option Addr) (b : Nat) : Prop := b < w.heap.size ∧ g < b ∧ ob G ≠ some b
section
variable {w wr w1 : World} {base B g : Nat} {G G' : Option Addr} {al : List FnA} {fs : List Fn} {a : FnA} {f : Fn} {o : Obj}
theorem FnsAt.below (h : FnsAt wr (Off wr g G) al fs) (hb : Below wr.heap.size wr w1) : FnsAt w1 (Off w1 g G) al fs :=
  (h.keep fun b hS => hb.block b hS.1).mono fun _ hS => ⟨Nat.lt_of_lt_of_le hS.1 hb.size, hS.2⟩
/-- One function more. -/
theorem FnsAt.push (h : FnsAt wr (Off wr g G) al fs) (hf : FnS wr (Off wr g G) a f) (hg : (wr.alloc o).grownBy w1 (ob G)) (hat : ob G' = ob G ∨ ob G' = some (wr.alloc o).heap.size) : FnsAt w1 (Off w1 g G') (al ++ [a]) (fs ++ [f]) := by
  refine ((h.snoc hf).keep fun b hS => ?_).mono fun b hS => ⟨?_, hS.2.1, ?_⟩
  · exact (hg.block b (by rw [World.size_alloc]; have := hS.1; omega) (fun e => hS.2.2 e.symm)).trans (Below.heap_alloc _ _ _ hS.1)
  · have := hg.size
    rw [World.size_alloc] at this
    have := hS.1
    omega
  · rcases hat with e | e
    · rw [e]; exact hS.2.2
    · rw [e, World.size_alloc]
      intro e'
      injection e' with e'
      have := hS.1
      omega
theorem FnsAt.store (h : FnsAt wr (Off wr g G) al fs) (i : Nat) (u : Value) : FnsAt (wr.setCell ⟨g, i, none⟩ u) (Off (wr.setCell ⟨g, i, none⟩ u) g G) al fs :=
  (h.keep fun b hS => Below.heap_setCell _ _ _ _ (Nat.ne_of_gt hS.2.1)).mono fun b hS => ⟨by simpa [World.setCell] using hS.1, hS.2⟩
end
theorem grown_trans {a b c : World} {r : Option Nat} (h : a.grownBy b r) (k : b.grownBy c r) : a.grownBy c r :=
  ⟨k.os.trans h.os, k.tape.trans h.tape, k.output.trans h.output, Nat.le_trans h.size k.size, fun i hi hne => (k.block i (Nat.lt_of_lt_of_le hi h.size) hne).trans (h.block i hi hne)⟩
theorem grown_refl (a : World) (r : Option Nat) : a.grownBy a r := ⟨rfl, rfl, rfl, Nat.le_refl _, fun _ _ _ => rfl⟩
theorem grown_below {a b : World} (h : Below a.heap.size a b) (r : Option Nat) : a.grownBy b r := ⟨h.os, h.tape, h.output, h.size, fun i hi _ => h.block i hi⟩
theorem Below.more_ {B : Nat} {a b c : World} (h : Below B a b) (hB : B ≤ a.heap.size) (k : Below b.heap.size b c) : Below B a c := h.trans (k.mono (Nat.le_trans hB h.size))
theorem Own.base_le {w : World} {base base' : Nat} {e : TypeId} {size : Nat} {A : Option Addr} {n c : Nat} {xs : List Value} (h : Own w base e size A n c xs) (hb : base' ≤ base) : Own w base' e size A n c xs := by
  refine ⟨h.1, ?_⟩
  rcases h.2 with hn | ⟨g, cap, cur, hv, hg, rest⟩
  · exact .inl hn
  · exact .inr ⟨g, cap, cur, hv, Nat.le_trans hb hg, rest⟩
theorem Own.ne_ge {w : World} {base : Nat} {e : TypeId} {size : Nat} {A : Option Addr} {n c : Nat} {xs : List Value} (h : Own w base e size A n c xs) {g : Nat} (hg : w.heap.size ≤ g) : ob A ≠ some g := by
  intro e
  have := (h.lt g e).2
  omega
theorem Own.ne_lt' {w : World} {base : Nat} {e : TypeId} {size : Nat} {A : Option Addr} {n c : Nat} {xs : List Value} (h : Own w base e size A n c xs) {g : Nat} (hg : g < base) : ob A ≠ some g := by
  intro e
  have := (h.lt g e).1
  omega
/-- A program in blocks from B on. -/
def FnsNew (w : World) (B : Nat) (A : Option Addr) (fs : List Fn) : Prop := ∃ al, FnsAt w (fun b => B ≤ b ∧ b < w.heap.size) al fs ∧ RowS w (fun b => B ≤ b ∧ b < w.heap.size) A (al.flatMap fnaVals)
theorem FnsNew.ok {w : World} {B : Nat} {A : Option Addr} {fs : List Fn} (h : FnsNew w B A fs) : FnsOk w w.heap.size A fs := by
  obtain ⟨al, h1, h2⟩ := h
  exact h1.ok (fun _ hb => hb.2) (h2.row fun _ hb => hb.2)
theorem FnsNew.far {w : World} {B : Nat} {A : Option Addr} {fs : List Fn} (h : FnsNew w B A fs) {p : Addr} (hp : p.block < B) (v : Value) : FnsNew (w.setCell p v) B A fs := by
  obtain ⟨al, h1, h2⟩ := h
  have hs : (w.setCell p v).heap.size = w.heap.size := by simp [World.setCell]
  have hk : ∀ b, B ≤ b ∧ b < w.heap.size → (w.setCell p v).heap[b]? = w.heap[b]? := fun b hb => Below.heap_setCell _ _ _ _ (by omega)
  exact ⟨al, (h1.keep hk).mono fun b hb => ⟨hb.1, by rw [hs]; exact hb.2⟩, (h2.keep hk).mono fun b hb => ⟨hb.1, by rw [hs]; exact hb.2⟩⟩
theorem FnsNew.base {w : World} {B B' : Nat} {A : Option Addr} {fs : List Fn} (h : FnsNew w B A fs) (hB : B' ≤ B) : FnsNew w B' A fs := by
  obtain ⟨al, h1, h2⟩ := h
  exact ⟨al, h1.mono fun b hb => ⟨Nat.le_trans hB hb.1, hb.2⟩, h2.mono fun b hb => ⟨Nat.le_trans hB hb.1, hb.2⟩⟩
theorem fnaVals_one (l : List FnA) : ∀ u ∈ l.flatMap fnaVals, u.oneCell' = true := by
  intro u hu
  obtain ⟨i, _, hi⟩ := List.mem_flatMap.1 hu
  simp only [fnaVals, List.mem_cons, List.not_mem_nil, or_false] at hi
  rcases hi with rfl | rfl <;> rfl
end Go.Proofs.YtfgaonkoaolffaaDoor

/-
  Rows of the call's own: one element appended, the new value's shape told. No function of the program in sight.
-/
import Derived.Test.YtfgaonkoaolffaaDoorMem
import Derived.Test.YtfgaonkoaolffaaDoorBlk
import Derived.Maps.AppendAt
import Derived.OwnWalk
import Derived.Laws.OwnMore
namespace Go.Proofs.YtfgaonkoaolffaaDoor
open Go.RowKit
/-- The block of an address, if there is one. -/
def ob (A : Option Addr) : Option Nat := A.map (·.block)
theorem ob_slice (A : Option Addr) (n c : Nat) : (Value.slice A n c).ownBlock = ob A := by cases A <;> rfl
/-- A slice of the call's own: it holds n elements, the cells xs, in a block from base on. -/
def Own (w : World) (base : Nat) (e : TypeId) (size : Nat) (A : Option Addr) (n c : Nat) (xs : List Value) : Prop := w.ownsRow base e size (.slice A n c) n xs
section
variable {w w' : World} {base : Nat} {e : TypeId} {size n c : Nat} {A : Option Addr} {xs : List Value}
theorem Own.nil (w : World) (base : Nat) (e : TypeId) (size : Nat) : Own w base e size none 0 0 [] := World.ownsRow_nil w base e size
theorem Own.alloc (h : Own w base e size A n c xs) (o : Obj) : Own (w.alloc o) base e size A n c xs := World.ownsRow.alloc h o
theorem Own.kept {row : Option Nat} (h : Own w base e size A n c xs) (hg : w.grownBy w' row) (hne : ob A = none ∨ ob A ≠ row) : Own w' base e size A n c xs := World.ownsRow.kept h hg (by rw [ob_slice]; exact hne)
theorem Own.lt (h : Own w base e size A n c xs) : ∀ k, ob A = some k → base ≤ k ∧ k < w.heap.size := fun k hk => World.ownsRow.lt h k (by rw [ob_slice]; exact hk)
theorem Own.row (h : Own w base e 1 A n c xs) : Row w w.heap.size A xs := by
  rcases h.2 with ⟨hv, hn⟩ | ⟨g, cap, cur, hv, hbg, hh, _⟩
  · left
    have := h.1
    exact List.eq_nil_of_length_eq_zero (by omega)
  · right
    have hA : A = some ⟨g, 0, none⟩ := by injection hv
    subst hA
    refine ⟨g, 0, rfl, (World.ownsRow.lt h g rfl).2, fun j u hu => ?_⟩
    have := World.ownsRow.cells h (g := g) rfl j u hu
    rwa [Go.WideShapes.add_plain] at this
theorem Own.rowN (h : Own w base e size A n c xs) : Row w w.heap.size A xs := by
  rcases h.2 with ⟨hv, hn⟩ | ⟨g, cap, cur, hv, hbg, hh, _⟩
  · left
    have := h.1
    rw [hn] at this
    exact List.eq_nil_of_length_eq_zero (by omega)
  · right
    have hA : A = some ⟨g, 0, none⟩ := by injection hv
    subst hA
    refine ⟨g, 0, rfl, (World.ownsRow.lt h g rfl).2, fun j u hu => ?_⟩
    have := World.ownsRow.cells h (g := g) rfl j u hu
    rwa [Go.WideShapes.add_plain] at this
theorem Own.length (h : Own w base e 1 A n c xs) : xs.length = n := by have := h.1; omega
theorem grown_set (w : World) (p : Addr) (u : Value) : w.grownBy (w.setCell p u) (some p.block) :=
  ⟨rfl, rfl, rfl, by simp [World.setCell], fun i _ hne => Below.heap_setCell w p u i (fun e => hne (by rw [e]))⟩
theorem Own.setCell (h : Own w base e size A n c xs) (p : Addr) (u : Value) (hne : ob A = none ∨ ob A ≠ some p.block) : Own (w.setCell p u) base e size A n c xs := h.kept (grown_set w p u) hne
theorem Own.ne_lt (h : Own w base e size A n c xs) {g : Nat} (hg : g < base) : ob A = none ∨ ob A ≠ some g := by
  right
  intro e
  have := (h.lt g e).1
  omega
end
section
variable {P : Program} (w : World)
/-- 'append(s, x)', s a row of the call's own, x one element that was just laid in a block of its own. -/
theorem wpList_append_1 {ops : Array Oper} {rest : List Oper} {o : Oper} {a : Act} {Q : Exit → Act → World → Prop} (hgd : o.guard = none) (s x : Operand) (t : TypeId)
    (ho : o.op = .call { callee := .builtin .append, args := #[s, x], argTypes := #[t, t] })
    (base : Nat) (e : TypeId) (i : TypeInfo) (z : Value) (size bytes : Nat) (ht : P.underlying t = some (.slice e)) (hi : P.info? e = some i) (hz : i.zero = some z)
    (hsize : i.size = size) (hby : i.bytes = bytes) (hzs : z.cells.size = size) (hsz : 0 < size)
    (A : Option Addr) (n c : Nat) (xs : List Value) (hs : a.eval s = .slice A n c) (hown : Own w base e size A n c xs)
    (ad : Addr) (c' : Nat) (news : List Value) (hx : a.eval x = .slice (some ad) 1 c') (hl : news.length = size) (hnews : ∀ j u, news[j]? = some u → w.cell? (ad.add j) = some u) (h1 : ∀ u ∈ news, u.oneCell' = true)
    (h63 : n + 1 ≤ maxLen) (hbytes : (n + 1) * bytes ≤ 140737488355328) (hbase : base ≤ w.heap.size)
    (h : ∀ A' c' w', Own w' base e size A' (n + 1) c' (xs ++ news) → w.grownBy w' (ob A) → (ob A' = ob A ∨ ob A' = some w.heap.size) → wpList P ops Q rest (a.put o.dst (.slice A' (n + 1) c')) w') :
    wpList P ops Q (o :: rest) a w := by
  refine wpList_append_own_at w hgd s x t ho base e i z size bytes ht hi hz hsize hby hzs hsz _ n xs hs hown ad 1 c' news hx (by rw [hl]; omega) hnews h1 h63 hbytes hbase ?_
  intro v' w' h2 h3 _ h5
  have hex : ∃ A' cc, v' = .slice A' (n + 1) cc := by
    rcases h2.2 with ⟨_, h0⟩ | ⟨g, cap, cur, hv, _⟩
    · omega
    · exact ⟨_, _, hv⟩
  obtain ⟨A', cc, rfl⟩ := hex
  rw [ob_slice] at h3
  rw [ob_slice, ob_slice] at h5
  exact h A' cc w' h2 h3 h5
end
/-- Two slices that do not lie in one block. -/
def Apart (G I : Option Addr) : Prop := ∀ k, ob G = some k → ob I = some k → False
theorem Apart.symm {G I : Option Addr} (h : Apart G I) : Apart I G := fun k a b => h k b a
theorem Apart.none_l (I : Option Addr) : Apart none I := fun _ h => by cases h
theorem Apart.none_r (G : Option Addr) : Apart G none := fun _ _ h => by cases h
section
variable {w wr w1 : World} {base B : Nat} {e : TypeId} {size n m c d : Nat} {A' G I : Option Addr} {xs ys : List Value} {o : Obj}
theorem own_other (hI : Own wr base e size I m d ys) (hg : (wr.alloc o).grownBy w1 (ob G)) (hne : Apart G I) : Own w1 base e size I m d ys := by
  refine (hI.alloc o).kept hg ?_
  cases h : ob I with
  | none => exact .inl rfl
  | some k =>
    right
    intro h'
    exact hne k h'.symm h
theorem apart_append (hI : Own wr base e size I m d ys) (hat : ob A' = ob G ∨ ob A' = some (wr.alloc o).heap.size) (hne : Apart G I) : Apart A' I := by
  intro k h1 h2
  rcases hat with h | h
  · exact hne k (h ▸ h1) h2
  · rw [h1, World.size_alloc] at h
    injection h with h
    have := (hI.lt k h2).2
    omega
theorem below_append (hb : Below B w wr) (hG : Own wr base e size G n c xs) (hB : B ≤ base) (hBw : B ≤ wr.heap.size) (hg : (wr.alloc o).grownBy w1 (ob G)) : Below B w w1 :=
  (hb.alloc hBw o).grown hg (by rw [World.size_alloc]; omega) (fun k hk => Nat.le_trans hB (hG.lt k hk).1)
/-- What an append to a row of the call's own leaves of the block that holds the rows' values. -/
theorem after_append {g : Nat} {t : TypeId} {cs : Array Value} (hb : Blk wr g t cs) (hg : (wr.alloc o).grownBy w1 (ob G)) (ho : Own wr base e size G n c xs) (hgb : g < base) :
    Blk w1 g t cs ∧ (∀ i, w1.cell? ⟨g, i, none⟩ = cs[i]?) ∧ (∀ i, w1.frozen? ⟨g, i, none⟩ = false) ∧ g < w1.heap.size := by
  have h1 : Blk w1 g t cs := (hb.alloc o).grown hg (fun e => by have := (ho.lt g e.symm).1; omega)
  exact ⟨h1, h1.cell, h1.frozen, h1.lt⟩
end
end Go.Proofs.YtfgaonkoaolffaaDoor

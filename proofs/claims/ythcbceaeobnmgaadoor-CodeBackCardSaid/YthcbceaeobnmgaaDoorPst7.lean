/-
  Chapter 7: a row of bytes of the call's own that grows, beside blocks that stay. No function of the program in sight.
-/
import Derived.Test.YthcbceaeobnmgaaDoorPln7
import Derived.Test.YthcbceaeobnmgaaDoorBm5
import Derived.Test.YthcbceaeobnmgaaDoorApp
import Derived.Test.YthcbceaeobnmgaaDoorBuild
namespace Go.Proofs.YthcbceaeobnmgaaDoor
open Go.RowKit
/-- The bytes that are told so far. -/
structure PSt (w wr : World) (O : Option Addr) (n cO : Nat) (L : List Nat) : Prop where
  own : Own wr w.heap.size 5 1 O n cO (byteVals L)
  len : L.length = n
  bel : Below w.heap.size w wr
/-- A block that the row does not lie in. -/
def Kept (wr : World) (O : Option Addr) (g : Nat) (t : TypeId) (cs : Array Value) : Prop := Blk wr g t cs ∧ ob O ≠ some g
section
variable {w wr w1 : World} {O : Option Addr} {n cO : Nat} {L : List Nat} {g : Nat} {t : TypeId} {cs : Array Value}
theorem PSt.alloc (h : PSt w wr O n cO L) (o : Obj) : PSt w (wr.alloc o) O n cO L := ⟨h.own.alloc o, h.len, h.bel.alloc h.bel.size o⟩
theorem PSt.below (h : PSt w wr O n cO L) (hb : Below wr.heap.size wr w1) : PSt w w1 O n cO L :=
  ⟨h.own.kept (grown_below hb none) (by cases O with | none => exact .inl rfl | some q => right; intro h; cases h), h.len, h.bel.trans (hb.mono h.bel.size)⟩
theorem PSt.new (h : PSt w wr O n cO L) (t : TypeId) (cs : Array Value) : Kept (wr.alloc (.cells cs t)) O wr.heap.size t cs := ⟨Blk.new _ _ _, h.own.ne_ge (Nat.le_refl _)⟩
theorem Kept.alloc (h : Kept wr O g t cs) (o : Obj) : Kept (wr.alloc o) O g t cs := ⟨h.1.alloc o, h.2⟩
theorem Kept.below (h : Kept wr O g t cs) (hb : Below wr.heap.size wr w1) : Kept w1 O g t cs := ⟨h.1.below hb h.1.lt, h.2⟩
theorem byteVals_app (a b : List Nat) : byteVals (a ++ b) = byteVals a ++ byteVals b := by simp [byteVals]
theorem byteVals_one (l : List Nat) : ∀ u ∈ byteVals l, u.oneCell' = true := by
  intro u hu
  obtain ⟨x, _, rfl⟩ := List.mem_map.1 hu
  rfl
theorem byteVals_len (l : List Nat) : (byteVals l).length = l.length := by simp [byteVals]
end
theorem wpList_append_bytes {w w2 : World} {ops : Array Oper} {rest : List Oper} {o : Oper} {a : Act} {Q : Exit → Act → World → Prop} (hgd : o.guard = none) (s x : Operand)
    (ho : o.op = .call { callee := .builtin .append, args := #[s, x], argTypes := #[35, 35] })
    (O : Option Addr) (n cO : Nat) (L : List Nat) (hs : a.eval s = .slice O n cO) (h : PSt w w2 O n cO L) (X : Option Addr) (m d B : Nat) (N : List Nat) (hx : a.eval x = .slice X m d) (hN : N.length = m) (hrow : Row w2 B X (byteVals N)) (hsm : n + m ≤ 1000000)
    (k : ∀ A' c' w', Hid (PSt w w' A' (n + m) c' (L ++ N)) → Hid (∀ g t cs, Kept w2 O g t cs → Kept w' A' g t cs) → wpList Tryd.prog ops Q rest (a.put o.dst (.slice A' (n + m) c')) w') :
    wpList Tryd.prog ops Q (o :: rest) a w2 := by
  obtain ⟨i0, hi, hz0, hz1, hz2⟩ := info_parts Tryd.infoU8
  refine wpList_append_row w2 hgd s x 35 ho w.heap.size 5 i0 _ 1 1 Tryd.underlying35 hi hz0 hz1 hz2 rfl (by decide) O n cO (byteVals L) hs h.own X m d B (byteVals N) hx (by rw [byteVals_len, hN]; omega) hrow (byteVals_one N) (by unfold maxLen; omega) (by omega) h.bel.size ?_
  intro A' c' w' h1 h2 h3
  refine k A' c' w' ⟨by rw [byteVals_app]; exact h1, by rw [List.length_append, h.len, hN], (Below.grown h.bel h2 h.bel.size (fun k hk => (h.own.lt k hk).1))⟩ (show _ from fun g t cs hk => ⟨hk.1.grown h2 (fun e => hk.2 e.symm), fun e => ?_⟩)
  rcases h3 with h3 | h3
  · rw [h3] at e; exact hk.2 e
  · rw [h3] at e
    injection e with e
    have := hk.1.lt
    omega
/-- A literal of bytes, laid in a block of its own. -/
theorem row_lit {w : World} {cs : Array Value} {l : List Nat} (t : TypeId) (h : cs.toList = byteVals l) : Row (w.alloc (.cells cs t)) (w.heap.size + 1) (some ⟨w.heap.size, 0, none⟩) (byteVals l) := by
  refine .inr ⟨w.heap.size, 0, rfl, Nat.lt_succ_self _, fun j v hv => ?_⟩
  rw [Nat.zero_add, (Blk.new w t cs).cell, ← hv, ← h]
  simp
theorem numB_take (n : Int) (q : Nat) (h : q < 8) : (numB n).take q ++ [byteN n (7 - q)] = (numB n).take (q + 1) := by
  rcases (by omega : q = 0 ∨ q = 1 ∨ q = 2 ∨ q = 3 ∨ q = 4 ∨ q = 5 ∨ q = 6 ∨ q = 7) with rfl | rfl | rfl | rfl | rfl | rfl | rfl | rfl <;> rfl
theorem numB_all (n : Int) : (numB n).take 8 = numB n := rfl
end Go.Proofs.YthcbceaeobnmgaaDoor

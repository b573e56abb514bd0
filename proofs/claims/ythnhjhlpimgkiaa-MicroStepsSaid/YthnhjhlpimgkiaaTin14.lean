/-
  Chapter 14: a task in memory, as a task in plain; Step is an access of it.
-/
import Derived.Test.YthnhjhlpimgkiaaPln14
import Derived.Test.YthnhjhlpimgkiaaSpd14
import Derived.Test.YthnhjhlpimgkiaaGbd14
import Derived.Test.YthnhjhlpimgkiaaStp14
import Derived.Test.YthnhjhlpimgkiaaAcc14
namespace Go.Proofs.Ythnhjhlpimgkiaa
open Go.RowKit
/-- A task in plain as cells: its buffer at A, what it got at G. -/
def tk (P : Pt) (A : Option Addr) (c : Nat) (G : Option Addr) (m e : Nat) : Tk := ⟨P.d.map Ac.fn, P.g, P.old, P.head, P.tail, P.many, .slice A P.bs.length c, .slice G m e, P.steps⟩
/-- A task in memory: what it owns are blocks of Q. -/
structure TM (w : World) (Q : Nat → Prop) (gt gr gc gl kc : Nat) (ex : List Value) (size : Nat) (xs : List Int) (cnt : Nat) (P : Pt) (A : Option Addr) (c : Nat) (G : Option Addr) (m e : Nat) : Prop where
  mem : M14 w gt gr gc gl kc ex size xs cnt (tk P A c G m e)
  buf : P.d ≠ none → Own w 0 2 1 A P.bs.length c (ints P.bs)
  got : Own w 0 2 1 G m e (ints P.gs)
  bufQ : P.d ≠ none → ∀ b, ob A = some b → Q b ∧ b ≠ gt
  gotQ : ∀ b, ob G = some b → Q b ∧ b ≠ gt
  gtQ : Q gt
  far : ¬ Q gr ∧ ¬ Q gc ∧ ¬ Q gl
  few : P.bs.length ≤ P.steps
  hot : P.d ≠ none → ob G = none
def TI (w : World) (Q : Nat → Prop) (gt gr gc gl kc : Nat) (ex : List Value) (size : Nat) (xs : List Int) (cnt : Nat) (P : Pt) : Prop := ∃ A c G m e, TM w Q gt gr gc gl kc ex size xs cnt P A c G m e
/-- The blocks of Q, and all new ones. -/
def Qn (Q : Nat → Prop) (w : World) (b : Nat) : Prop := (Q b ∧ b < w.heap.size) ∨ w.heap.size ≤ b
theorem own_base0 {w : World} {b : Nat} {e : TypeId} {size n c : Nat} {A : Option Addr} {xs : List Value} (h : Own w b e size A n c xs) : Own w 0 e size A n c xs := by
  refine ⟨h.1, ?_⟩
  rcases h.2 with h2 | ⟨g, cap, cur, hv, hg, hh, rest⟩
  · exact .inl h2
  · exact .inr ⟨g, cap, cur, hv, Nat.zero_le _, hh, rest⟩
section
variable {w w' : World} {Q : Nat → Prop} {gt gr gc gl kc size cnt cnt' : Nat} {ex : List Value} {xs xs' : List Int} {P P' : Pt} {A A' G G' : Option Addr} {c c' m m' e e' : Nat}
theorem TM.bufFar (I : TM w Q gt gr gc gl kc ex size xs cnt P A c G m e) (hd : P.d ≠ none) : BufFar A gt gr gc gl := fun b hb => by
  have h := I.bufQ hd b hb
  exact ⟨h.2, fun k => I.far.1 (k ▸ h.1), fun k => I.far.2.1 (k ▸ h.1), fun k => I.far.2.2 (k ▸ h.1)⟩
theorem TM.gotFar (I : TM w Q gt gr gc gl kc ex size xs cnt P A c G m e) : BufFar G gt gr gc gl := fun b hb => by
  have h := I.gotQ b hb
  exact ⟨h.2, fun k => I.far.1 (k ▸ h.1), fun k => I.far.2.1 (k ▸ h.1), fun k => I.far.2.2 (k ▸ h.1)⟩
theorem BufFar.out (h : BufFar A gt gr gc gl) : ∀ b, ob A = some b → b ∉ [gc, gl, gt] := by
  intro b hb
  have := h b hb
  simp
  omega
/-- What is owned behind an access. -/
theorem ti_mk (I : TM w Q gt gr gc gl kc ex size xs cnt P A c G m e) (hd : P.d ≠ none) (M : M14 w' gt gr gc gl kc ex size xs' cnt' (tk P' A' c' G' m' e'))
    (hO : P'.d ≠ none → Own w' 0 2 1 A' P'.bs.length c' (ints P'.bs)) (hG : Own w' 0 2 1 G' m' e' (ints P'.gs))
    (hA : ∀ b, ob A' = some b → ob A = some b ∨ w.heap.size ≤ b) (hG' : ∀ b, ob G' = some b → ob G = some b ∨ ob A = some b ∨ w.heap.size ≤ b) (hf : P'.bs.length ≤ P'.steps) (hh : P'.d ≠ none → ob G' = none) :
    TI w' (Qn Q w) gt gr gc gl kc ex size xs' cnt' P' := by
  have hgt := I.mem.task.lt
  have h1 := I.mem.ring.lt
  have h2 := I.mem.cells.head.lt
  have h3 := I.mem.cells.row.lt
  refine ⟨A', c', G', m', e', M, hO, hG, ?_, ?_, .inl ⟨I.gtQ, hgt⟩, ?_, hf, hh⟩
  · intro _ b hb
    rcases hA b hb with h | h
    · exact ⟨.inl ⟨(I.bufQ hd b h).1, ((I.buf hd).lt b h).2⟩, (I.bufQ hd b h).2⟩
    · exact ⟨.inr h, by omega⟩
  · intro b hb
    rcases hG' b hb with h | h | h
    · exact ⟨.inl ⟨(I.gotQ b h).1, (I.got.lt b h).2⟩, (I.gotQ b h).2⟩
    · exact ⟨.inl ⟨(I.bufQ hd b h).1, ((I.buf hd).lt b h).2⟩, (I.bufQ hd b h).2⟩
    · exact ⟨.inr h, by omega⟩
  · have := I.far
    unfold Qn
    refine ⟨?_, ?_, ?_⟩ <;> rintro (⟨h, _⟩ | h)
    · exact this.1 h
    · omega
    · exact this.2.1 h
    · omega
    · exact this.2.2 h
    · omega
/-- What an access gives: the buffer as it was, and what it got as it was. -/
theorem ti_same (I : TM w Q gt gr gc gl kc ex size xs cnt P A c G m e) (hd : P.d ≠ none) (hv : Mv [gc, gl, gt] w w') (M : M14 w' gt gr gc gl kc ex size xs' cnt' (tk P' A c G m e)) (h1 : P'.bs = P.bs) (h2 : P'.gs = P.gs) (hf : P.steps ≤ P'.steps) :
    TI w' (Qn Q w) gt gr gc gl kc ex size xs' cnt' P' :=
  ti_mk I hd M (fun _ => by rw [h1]; exact own_mv (I.buf hd) hv (I.bufFar hd).out) (by rw [h2]; exact own_mv I.got hv I.gotFar.out) (fun b hb => .inl hb) (fun b hb => .inl hb) (by rw [h1]; exact Nat.le_trans I.few hf) (fun _ => I.hot hd)
/-- The same, with nothing got. -/
theorem ti_end (I : TM w Q gt gr gc gl kc ex size xs cnt P A c G m e) (hd : P.d ≠ none) (hv : Mv [gc, gl, gt] w w') (M : M14 w' gt gr gc gl kc ex size xs' cnt' (tk P' A c none 0 0)) (h1 : P'.bs = P.bs) (h2 : P'.gs = []) (hf : P.steps ≤ P'.steps) :
    TI w' (Qn Q w) gt gr gc gl kc ex size xs' cnt' P' :=
  ti_mk I hd M (fun _ => by rw [h1]; exact own_mv (I.buf hd) hv (I.bufFar hd).out) (by rw [h2]; exact Own.nil _ _ _ _) (fun b hb => .inl hb) (fun b hb => by cases hb) (by rw [h1]; exact Nat.le_trans I.few hf) (fun _ => rfl)
/-- The same, with a new buffer that is empty. -/
theorem ti_fresh (I : TM w Q gt gr gc gl kc ex size xs cnt P A c G m e) (hd : P.d ≠ none) (hv : Mv [gc, gl, gt] w w') (M : M14 w' gt gr gc gl kc ex size xs' cnt' (tk P' none 0 G m e)) (h1 : P'.bs = []) (h2 : P'.gs = P.gs) :
    TI w' (Qn Q w) gt gr gc gl kc ex size xs' cnt' P' :=
  ti_mk I hd M (fun _ => by rw [h1]; exact Own.nil _ _ _ _) (by rw [h2]; exact own_mv I.got hv I.gotFar.out) (fun b hb => by cases hb) (fun b hb => .inl hb) (by rw [h1]; exact Nat.zero_le _) (fun _ => I.hot hd)
/-- The same, with something got. -/
theorem ti_got {w0 : World} (I : TM w Q gt gr gc gl kc ex size xs cnt P A c G m e) (hd : P.d ≠ none) (h0 : w.heap.size ≤ w0.heap.size) (hv : Mv [gc, gl, gt] w w') (l : List Int) (v : Value) (hg : GotIs w0 w' v l) (T : Tk) (M : M14 w' gt gr gc gl kc ex size xs' cnt' T) (hT : ∀ G' m' e', v = .slice G' m' e' → T = tk P' A c G' m' e') (h1 : P'.bs = P.bs) (h2 : P'.gs = l) (hf : P.steps ≤ P'.steps) (h3 : P'.d = none) :
    TI w' (Qn Q w) gt gr gc gl kc ex size xs' cnt' P' := by
  obtain ⟨G', m', e', rfl, hO⟩ := hg
  rw [hT _ _ _ rfl] at M
  refine ti_mk I hd M (fun _ => by rw [h1]; exact own_mv (I.buf hd) hv (I.bufFar hd).out) (by rw [h2]; exact own_base0 hO) (fun b hb => .inl hb) (fun b hb => .inr (.inr ?_)) (by rw [h1]; exact Nat.le_trans I.few hf) (fun h => absurd h3 h)
  have := (hO.lt b hb).1
  omega
end
end Go.Proofs.Ythnhjhlpimgkiaa

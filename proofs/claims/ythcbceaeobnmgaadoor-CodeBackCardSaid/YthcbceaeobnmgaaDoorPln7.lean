/-
  Chapter 7, plain: which programs fit, and their bytes. No program in sight.
-/
import Derived.Test.YthcbceaeobnmgaaDoorFns
import Derived.Test.YthcbceaeobnmgaaDoorIsaCheck
import Derived.Test.YthcbceaeobnmgaaDoorByt
namespace Go.Proofs.YthcbceaeobnmgaaDoor
open Go.RowKit
def nar (x : Int) : Bool := decide (0 ≤ x) && decide (x ≤ 255)

def fitsI (i : Ins) : Bool := isOpB i.op && nar i.a && nar i.b && nar i.c
def fitsF (f : Fn) : Bool := decide (f.code.length ≤ 64) && decide (f.safe.length = f.code.length) && f.code.all fitsI
def fitsP (fs : List Fn) : Bool := decide (fs.length ≤ 16) && fs.all fitsF
def longB (op : Int) : Bool := opNumber op || opTarget op != 0
/-- A byte of a number: the k-th from below. -/
def byteN (n : Int) (k : Nat) : Nat := (n / 2 ^ (8 * k) % 256).toNat
def numB (n : Int) : List Nat := [byteN n 7, byteN n 6, byteN n 5, byteN n 4, byteN n 3, byteN n 2, byteN n 1, byteN n 0]
def headB (i : Ins) : List Nat := [i.op.toNat, i.a.toNat, i.b.toNat, i.c.toNat]
def insB (i : Ins) : List Nat := headB i ++ if longB i.op = true then numB i.n else []
def badI (i : Ins) : Bool := !longB i.op && i.n != 0
def fnB (f : Fn) : List Nat := f.code.length :: (f.code.flatMap insB ++ bytesOf f.safe)
def progB (fs : List Fn) : List Nat := fs.length :: fs.flatMap fnB
def goodF (f : Fn) : Bool := f.code.all fun i => !badI i
def printOk (fs : List Fn) : Bool := fitsP fs && fs.all goodF
theorem byteN_lt (n : Int) (k : Nat) : byteN n k < 256 := by
  unfold byteN
  have := Int.emod_lt_of_pos (n / 2 ^ (8 * k)) (show (0 : Int) < 256 by decide)
  omega
theorem numB_len (n : Int) : (numB n).length = 8 := rfl
theorem insB_len (i : Ins) : (insB i).length ≤ 12 := by
  unfold insB headB
  split <;> simp [numB]
theorem nar_of {x : Int} (h : nar x = true) : 0 ≤ x ∧ x ≤ 255 := by
  unfold nar at h
  simpa using h
theorem fitsI_of {i : Ins} (h : fitsI i = true) : (0 ≤ i.op ∧ i.op < 24) ∧ (0 ≤ i.a ∧ i.a ≤ 255) ∧ (0 ≤ i.b ∧ i.b ≤ 255) ∧ (0 ≤ i.c ∧ i.c ≤ 255) := by
  unfold fitsI at h
  simp only [Bool.and_eq_true] at h
  obtain ⟨⟨⟨h1, h2⟩, h3⟩, h4⟩ := h
  exact ⟨by unfold isOpB at h1; simpa using h1, nar_of h2, nar_of h3, nar_of h4⟩
theorem fitsP_of {fs : List Fn} (h : fitsP fs = true) : fs.length ≤ 16 ∧ ∀ f ∈ fs, f.code.length ≤ 64 ∧ f.safe.length = f.code.length ∧ ∀ i ∈ f.code, fitsI i = true := by
  unfold fitsP at h
  simp only [Bool.and_eq_true, decide_eq_true_eq, List.all_eq_true] at h
  refine ⟨h.1, fun f hf => ?_⟩
  have := h.2 f hf
  unfold fitsF at this
  simp only [Bool.and_eq_true, decide_eq_true_eq, List.all_eq_true] at this
  exact ⟨this.1.1, this.1.2, this.2⟩
theorem insB_lt {i : Ins} (h : fitsI i = true) : ∀ x ∈ insB i, x < 256 := by
  obtain ⟨h1, h2, h3, h4⟩ := fitsI_of h
  intro x hx
  unfold insB headB at hx
  rw [List.mem_append] at hx
  rcases hx with hx | hx
  · simp only [List.mem_cons, List.not_mem_nil, or_false] at hx
    rcases hx with rfl | rfl | rfl | rfl <;> omega
  · split at hx
    · simp only [numB, List.mem_cons, List.not_mem_nil, or_false] at hx
      rcases hx with rfl | rfl | rfl | rfl | rfl | rfl | rfl | rfl <;> exact byteN_lt _ _
    · cases hx
theorem bytesOf_lt {bs : List Bool} (h : bs.length < 65536) : ∀ x ∈ bytesOf bs, x < 256 := by
  intro x hx
  unfold bytesOf at hx
  rw [List.mem_append] at hx
  rcases hx with hx | hx
  · simp only [List.mem_cons, List.not_mem_nil, or_false] at hx
    rcases hx with rfl | rfl <;> omega
  · obtain ⟨q, _, rfl⟩ := List.mem_map.1 hx
    exact byteAt_lt bs q
theorem fnB_lt {f : Fn} (h1 : f.code.length ≤ 64) (h2 : f.safe.length = f.code.length) (h3 : ∀ i ∈ f.code, fitsI i = true) : ∀ x ∈ fnB f, x < 256 := by
  intro x hx
  unfold fnB at hx
  rcases List.mem_cons.1 hx with rfl | hx
  · omega
  rcases List.mem_append.1 hx with hx | hx
  · obtain ⟨i, hi, hx⟩ := List.mem_flatMap.1 hx
    exact insB_lt (h3 i hi) x hx
  · exact bytesOf_lt (by omega) x hx
theorem progB_lt {fs : List Fn} (h : fitsP fs = true) : ∀ x ∈ progB fs, x < 256 := by
  obtain ⟨h1, h2⟩ := fitsP_of h
  intro x hx
  unfold progB at hx
  rcases List.mem_cons.1 hx with rfl | hx
  · omega
  · obtain ⟨f, hf, hx⟩ := List.mem_flatMap.1 hx
    obtain ⟨a, b, c⟩ := h2 f hf
    exact fnB_lt a b c x hx
theorem flat_le {α : Type} (g : α → List Nat) (c : Nat) (l : List α) (h : ∀ x ∈ l, (g x).length ≤ c) : (l.flatMap g).length ≤ c * l.length := by
  induction l with
  | nil => simp
  | cons a l ih =>
    rw [List.flatMap_cons, List.length_append, List.length_cons, Nat.mul_succ]
    have h1 := h a (by simp)
    have h2 := ih (fun x hx => h x (by simp [hx]))
    omega
theorem fnB_le {f : Fn} (h1 : f.code.length ≤ 64) (h2 : f.safe.length = f.code.length) : (fnB f).length ≤ 800 := by
  have h3 := flat_le insB 12 f.code (fun i _ => insB_len i)
  unfold fnB bytesOf
  simp only [List.length_cons, List.length_append, List.length_map, List.length_range, List.length_nil]
  omega
end Go.Proofs.YthcbceaeobnmgaaDoor

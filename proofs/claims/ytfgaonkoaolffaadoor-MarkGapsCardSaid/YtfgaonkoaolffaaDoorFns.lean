/-
  Programs of the bytecode as plain lists, and how they lie in memory. No function of the program in sight.
-/
import Derived.Test.YtfgaonkoaolffaaDoorRows
import Derived.Test.YtfgaonkoaolffaaDoorOpen
import Derived.Test.YtfgaonkoaolffaaDoorMem
import Derived.Test.YtfgaonkoaolffaaDoorBoolv
namespace Go.Proofs.YtfgaonkoaolffaaDoor
open Go.RowKit Go.ChangeShapes Go.WideShapes Go.Deep Go.Joins
structure Ins where
  op : Int
  a : Int
  b : Int
  c : Int
  n : Int
def insVals (i : Ins) : List Value := [.int .i64 i.op, .int .i64 i.a, .int .i64 i.b, .int .i64 i.c, .int .i64 i.n]
theorem insVals_len (i : Ins) : (insVals i).length = 5 := rfl
def InsOk (i : Ins) : Prop := I64 i.op ∧ I64 i.a ∧ I64 i.b ∧ I64 i.c ∧ I64 i.n
structure Fn where
  code : List Ins
  safe : List Bool
/-- The two slices of a function. -/
structure FnA where
  C : Option Addr
  n : Nat
  c : Nat
  S : Option Addr
  m : Nat
  d : Nat
def fnaVals (a : FnA) : List Value := [.slice a.C a.n a.c, .slice a.S a.m a.d]
theorem fnaVals_len (a : FnA) : (fnaVals a).length = 2 := rfl
/-- A function lies in memory, below B. -/
def FnOk (w : World) (B : Nat) (a : FnA) (f : Fn) : Prop :=
  a.n = f.code.length ∧ a.m = f.safe.length ∧ Row w B a.C (f.code.flatMap insVals) ∧ Row w B a.S (boolVals f.safe) ∧ a.n ≤ maxLen ∧ a.m ≤ maxLen ∧ ∀ i ∈ f.code, InsOk i
theorem FnOk.keep {w w' : World} {B : Nat} {a : FnA} {f : Fn} (h : FnOk w B a f) (hk : ∀ p : Addr, p.block < B → w'.cell? p = w.cell? p) : FnOk w' B a f :=
  ⟨h.1, h.2.1, h.2.2.1.keep hk, h.2.2.2.1.keep hk, h.2.2.2.2⟩
theorem FnOk.below {w w' : World} {B : Nat} {a : FnA} {f : Fn} (h : FnOk w B a f) (hb : Below B w w') : FnOk w' B a f := h.keep fun _ hp => hb.cell hp
theorem FnOk.more {w : World} {B B' : Nat} {a : FnA} {f : Fn} (h : FnOk w B a f) (hB : B ≤ B') : FnOk w B' a f := ⟨h.1, h.2.1, h.2.2.1.more hB, h.2.2.2.1.more hB, h.2.2.2.2⟩
theorem FnOk.step {w w' : World} {a : FnA} {f : Fn} (h : FnOk w w.heap.size a f) (hb : Below w.heap.size w w') : FnOk w' w'.heap.size a f := (h.below hb).more hb.size
theorem FnOk.alloc {w : World} {a : FnA} {f : Fn} (h : FnOk w w.heap.size a f) (o : Obj) : FnOk (w.alloc o) (w.alloc o).heap.size a f := h.step ((Below.refl _ _).alloc (Nat.le_refl _) _)
/-- The instruction at a place. -/
theorem FnOk.ins {w : World} {B : Nat} {a : FnA} {f : Fn} (h : FnOk w B a f) (k : Nat) (hk : k < f.code.length) :
    ∃ b off, a.C = some ⟨b, off, none⟩ ∧ b < B ∧ ∀ j u, (insVals f.code[k])[j]? = some u → w.cell? ⟨b, off + (k * 5 + j), none⟩ = some u := by
  obtain ⟨b, off, e, hb, hc⟩ := h.2.2.1.at_ (k := k * 5) (by rw [flat_length insVals_len]; omega)
  exact ⟨b, off, e, hb, fun j u hu => hc _ u (flat_at insVals_len f.code k j _ u (List.getElem?_eq_getElem hk) hu)⟩
theorem FnOk.ins5 {w : World} {B : Nat} {a : FnA} {f : Fn} (h : FnOk w B a f) (k : Nat) (hk : k < f.code.length) :
    ∃ b off, a.C = some ⟨b, off, none⟩ ∧ b < B ∧ w.cell? ⟨b, off + k * 5, none⟩ = some (.int .i64 f.code[k].op) ∧ w.cell? ⟨b, off + k * 5 + 1, none⟩ = some (.int .i64 f.code[k].a) ∧ w.cell? ⟨b, off + k * 5 + 2, none⟩ = some (.int .i64 f.code[k].b) ∧ w.cell? ⟨b, off + k * 5 + 3, none⟩ = some (.int .i64 f.code[k].c) ∧ w.cell? ⟨b, off + k * 5 + 4, none⟩ = some (.int .i64 f.code[k].n) := by
  obtain ⟨b, off, e, hb, hc⟩ := h.ins k hk
  exact ⟨b, off, e, hb, hc 0 _ rfl, by rw [Nat.add_assoc]; exact hc 1 _ rfl, by rw [Nat.add_assoc]; exact hc 2 _ rfl, by rw [Nat.add_assoc]; exact hc 3 _ rfl, by rw [Nat.add_assoc]; exact hc 4 _ rfl⟩
theorem FnOk.safe_at {w : World} {B : Nat} {a : FnA} {f : Fn} (h : FnOk w B a f) (k : Nat) (hk : k < f.safe.length) :
    ∃ b off, a.S = some ⟨b, off, none⟩ ∧ b < B ∧ w.cell? ⟨b, off + k, none⟩ = some (.bool f.safe[k]) := by
  obtain ⟨b, off, e, hb, hc⟩ := h.2.2.2.1.at_ (k := k) (by simpa [boolVals] using hk)
  exact ⟨b, off, e, hb, hc k _ (boolVals_at f.safe k hk)⟩
/-- Functions in a row. -/
def FnsOk (w : World) (B : Nat) (A : Option Addr) (fs : List Fn) : Prop :=
  ∃ al : List FnA, al.length = fs.length ∧ (∀ i (h : i < al.length) (h' : i < fs.length), FnOk w B al[i] fs[i]) ∧ Row w B A (al.flatMap fnaVals)
theorem FnsOk.keep {w w' : World} {B : Nat} {A : Option Addr} {fs : List Fn} (h : FnsOk w B A fs) (hk : ∀ p : Addr, p.block < B → w'.cell? p = w.cell? p) : FnsOk w' B A fs := by
  obtain ⟨al, h1, h2, h3⟩ := h
  exact ⟨al, h1, fun i hi hi' => (h2 i hi hi').keep hk, h3.keep hk⟩
theorem FnsOk.below {w w' : World} {B : Nat} {A : Option Addr} {fs : List Fn} (h : FnsOk w B A fs) (hb : Below B w w') : FnsOk w' B A fs := h.keep fun _ hp => hb.cell hp
theorem FnsOk.more {w : World} {B B' : Nat} {A : Option Addr} {fs : List Fn} (h : FnsOk w B A fs) (hB : B ≤ B') : FnsOk w B' A fs := by
  obtain ⟨al, h1, h2, h3⟩ := h
  exact ⟨al, h1, fun i hi hi' => (h2 i hi hi').more hB, h3.more hB⟩
theorem FnsOk.step {w w' : World} {A : Option Addr} {fs : List Fn} (h : FnsOk w w.heap.size A fs) (hb : Below w.heap.size w w') : FnsOk w' w'.heap.size A fs := (h.below hb).more hb.size
theorem FnsOk.alloc {w : World} {A : Option Addr} {fs : List Fn} (h : FnsOk w w.heap.size A fs) (o : Obj) : FnsOk (w.alloc o) (w.alloc o).heap.size A fs := h.step ((Below.refl _ _).alloc (Nat.le_refl _) _)
theorem FnsOk.at_ {w : World} {B : Nat} {A : Option Addr} {fs : List Fn} (h : FnsOk w B A fs) (i : Nat) (hi : i < fs.length) :
    ∃ b off a, A = some ⟨b, off, none⟩ ∧ b < B ∧ w.cell? ⟨b, off + i * 2, none⟩ = some (.slice a.C a.n a.c) ∧ w.cell? ⟨b, off + i * 2 + 1, none⟩ = some (.slice a.S a.m a.d) ∧ FnOk w B a fs[i] := by
  obtain ⟨al, h1, h2, h3⟩ := h
  obtain ⟨b, off, e, hb, hc⟩ := h3.at_ (k := i * 2) (by rw [flat_length fnaVals_len]; omega)
  have hia : i < al.length := by omega
  exact ⟨b, off, al[i], e, hb, hc _ _ (flat_at fnaVals_len al i 0 _ _ (List.getElem?_eq_getElem hia) rfl), by rw [Nat.add_assoc]; exact hc _ _ (flat_at fnaVals_len al i 1 _ _ (List.getElem?_eq_getElem hia) rfl), h2 i hia hi⟩
section
variable {H : Type} {enc : TypeId × Value → H} {w : World} {base : Nat}
theorem Tryd.cellsIns : Tryd.prog.cellsOf 43 = 5 := by kernel_rfl
theorem Tryd.cellsFn : Tryd.prog.cellsOf 39 = 2 := by kernel_rfl
theorem Tryd.cellsProg : Tryd.prog.cellsOf 24 = 1 := by kernel_rfl
theorem Tryd.cellsB : Tryd.prog.cellsOf 4 = 1 := by kernel_rfl
set_option maxRecDepth 100000 in
theorem ins_of {n : Nat} {cs : List Value} {y : DataW H × List MemPlace} (h : DataW.trod enc Tryd.prog w base (fun _ => true) true n 43 cs = some y) : ∃ i : Ins, cs = insVals i ∧ InsOk i := by
  obtain ⟨hlen, k, hg⟩ := open_fields Tryd.underlying43 (by kernel_rfl) Tryd.cellsIns h
  obtain ⟨c0, y0, k0, g0, _⟩ := hg 0 _ rfl
  obtain ⟨c1, y1, k1, g1, _⟩ := hg 1 _ rfl
  obtain ⟨c2, y2, k2, g2, _⟩ := hg 2 _ rfl
  obtain ⟨c3, y3, k3, g3, _⟩ := hg 3 _ rfl
  obtain ⟨c4, y4, k4, g4, _⟩ := hg 4 _ rfl
  obtain ⟨b0, e0, _, w0⟩ := DataW.trod_int Tryd.underlying3 g0
  obtain ⟨b1, e1, _, w1⟩ := DataW.trod_int Tryd.underlying3 g1
  obtain ⟨b2, e2, _, w2⟩ := DataW.trod_int Tryd.underlying3 g2
  obtain ⟨b3, e3, _, w3⟩ := DataW.trod_int Tryd.underlying3 g3
  obtain ⟨b4, e4, _, w4⟩ := DataW.trod_int Tryd.underlying2 g4
  simp only [List.cons.injEq, and_true] at e0 e1 e2 e3 e4
  subst e0 e1 e2 e3 e4
  match cs, hlen with
  | [x0, x1, x2, x3, x4], _ =>
    simp at k0 k1 k2 k3 k4
    subst k0 k1 k2 k3 k4
    exact ⟨⟨b0, b1, b2, b3, b4⟩, rfl, i64_wf w0, i64_wf w1, i64_wf w2, i64_wf w3, i64_wf w4⟩
set_option maxRecDepth 100000 in
theorem fn_of {n : Nat} {cs : List Value} {y : DataW H × List MemPlace} (h : DataW.trod enc Tryd.prog w base (fun _ => true) true n 39 cs = some y) (hlt : ∀ q ∈ y.2, q.block < w.heap.size) : ∃ a : FnA, cs = fnaVals a ∧ ∃ f : Fn, FnOk w w.heap.size a f := by
  obtain ⟨hlen, k, hg⟩ := open_fields Tryd.underlying39 (by kernel_rfl) Tryd.cellsFn h
  obtain ⟨c0, y0, k0, g0, m0⟩ := hg 0 _ rfl
  obtain ⟨c1, y1, k1, g1, m1⟩ := hg 1 _ rfl
  obtain ⟨C, nn, c, l, rfl, h1, h2, h3, h4, h5⟩ := open_slice_of insVals 5 insVals_len (by omega) InsOk Tryd.underlying36 Tryd.cellsIns (fun _ _ _ hy _ => ins_of hy) g0 (fun q hq => hlt q (m0 q hq))
  obtain ⟨S, m, d, ss, rfl, i1, i2, i3, i4⟩ := open_bools Tryd.underlying37 Tryd.underlying4 Tryd.cellsB g1 (fun q hq => hlt q (m1 q hq))
  match cs, hlen with
  | [x0, x1], _ =>
    simp at k0 k1
    subst k0 k1
    exact ⟨⟨C, nn, c, S, m, d⟩, rfl, ⟨l, ss⟩, h1.symm, i1.symm, h5, i4, by show nn ≤ maxLen; omega, by show m ≤ maxLen; omega, h4⟩
set_option maxRecDepth 100000 in
/-- A program by value. -/
theorem open_prog {b0 : Nat} {v : Value} {d : DataW H} {p : List MemPlace} (hv : Value.okWide Tryd.prog w .any b0 24 v) (h : DataW.Trod enc Tryd.prog w base (fun _ => true) true 24 v d p) (hlt : ∀ q ∈ p, q.block < w.heap.size) :
    ∃ (A : Option Addr) (c : Nat) (fs : List Fn), v = .agg #[.slice A fs.length c] ∧ fs.length ≤ maxLen ∧ FnsOk w w.heap.size A fs := by
  obtain ⟨cs, rfl, hsz⟩ := okWide_struct Tryd.underlying24 hv
  obtain ⟨fuel, hf⟩ := h
  obtain ⟨hlen, k, hg⟩ := open_fields Tryd.underlying24 (by kernel_rfl) Tryd.cellsProg hf
  obtain ⟨c0, y0, k0, g0, m0⟩ := hg 0 _ rfl
  obtain ⟨A, n, c, al, rfl, h1, h2, h3, h4, h5⟩ := open_slice_of fnaVals 2 fnaVals_len (by omega) (fun a => ∃ f : Fn, FnOk w w.heap.size a f) Tryd.underlying22 Tryd.cellsFn (fun _ _ _ hy hq => fn_of hy hq) g0 (fun q hq => hlt q (m0 q hq))
  obtain ⟨l⟩ := cs
  simp only [Value.cells] at hlen k0
  match l, hlen with
  | [x0], _ =>
    simp at k0
    subst k0
    have build : ∀ al : List FnA, (∀ a ∈ al, ∃ f : Fn, FnOk w w.heap.size a f) → ∃ fs : List Fn, al.length = fs.length ∧ ∀ i (h : i < al.length) (h' : i < fs.length), FnOk w w.heap.size al[i] fs[i] := by
      intro al
      induction al with
      | nil => intro _; exact ⟨[], rfl, fun i h => by simp at h⟩
      | cons a al ih =>
        intro hh
        obtain ⟨f, hf⟩ := hh a (by simp)
        obtain ⟨fs, e1, e2⟩ := ih (fun x hx => hh x (by simp [hx]))
        refine ⟨f :: fs, by simp [e1], fun i h h' => ?_⟩
        cases i with
        | zero => exact hf
        | succ i => exact e2 i (by simpa using h) (by simpa using h')
    obtain ⟨fs, e1, e2⟩ := build al h4
    have e3 : n = fs.length := by omega
    subst e3
    exact ⟨A, c, fs, rfl, by omega, al, e1, e2, h5⟩
end
end Go.Proofs.YtfgaonkoaolffaaDoor

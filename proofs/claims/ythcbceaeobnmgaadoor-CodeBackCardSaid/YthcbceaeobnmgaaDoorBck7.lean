/-
  Chapter 7, plain: bytes that are printed are parsed as what they are of, and what is parsed has just those bytes. No program in sight.
-/
import Derived.Test.YthcbceaeobnmgaaDoorRfn7
namespace Go.Proofs.YthcbceaeobnmgaaDoor
open Go.RowKit
def dvN (n : Int) : Nat → Int
  | 0 => n
  | k + 1 => dvN n k / 256
theorem dvN_eq (n : Int) : ∀ k, n / 2 ^ (8 * k) = dvN n k
  | 0 => by simp [dvN]
  | k + 1 => by
    have h := dvN_eq n k
    unfold dvN
    rw [← h, Int.ediv_ediv_of_nonneg (by exact Int.le_of_lt (Int.pow_pos (by decide)))]
    congr 1
    rw [show 8 * (k + 1) = 8 * k + 8 by omega, Int.pow_add]
    rfl
theorem byteN_eq (n : Int) (k : Nat) : byteN n k = (dvN n k % 256).toNat := by unfold byteN; rw [dvN_eq]
theorem dig {x y b : Int} (hx : x = 256 * y + b) (h0 : 0 ≤ b) (h1 : b < 256) : x / 256 = y ∧ x % 256 = b := by omega
theorem dvN_step (n : Int) (k : Nat) : dvN n k = 256 * dvN n (k + 1) + (byteN n k : Nat) ∧ byteN n k < 256 := by
  rw [byteN_eq]
  show dvN n k = 256 * (dvN n k / 256) + _ ∧ _
  omega
theorem numI_numB (n : Int) (h : I64 n) : numI (numB n) = n := by
  obtain ⟨h1, h2⟩ := h
  have s0 := dvN_step n 0
  have s1 := dvN_step n 1
  have s2 := dvN_step n 2
  have s3 := dvN_step n 3
  have s4 := dvN_step n 4
  have s5 := dvN_step n 5
  have s6 := dvN_step n 6
  have s7 := dvN_step n 7
  have e0 : dvN n 0 = n := rfl
  unfold numI numB valN
  rw [IntKind.wrap_i64]
  simp only [List.foldl_cons, List.foldl_nil]
  generalize byteN n 0 = b0 at *
  generalize byteN n 1 = b1 at *
  generalize byteN n 2 = b2 at *
  generalize byteN n 3 = b3 at *
  generalize byteN n 4 = b4 at *
  generalize byteN n 5 = b5 at *
  generalize byteN n 6 = b6 at *
  generalize byteN n 7 = b7 at *
  simp only [Nat.zero_add, Nat.reduceAdd] at s0 s1 s2 s3 s4 s5 s6 s7
  generalize dvN n 8 = d8 at *
  generalize dvN n 7 = d7 at *
  generalize dvN n 6 = d6 at *
  generalize dvN n 5 = d5 at *
  generalize dvN n 4 = d4 at *
  generalize dvN n 3 = d3 at *
  generalize dvN n 2 = d2 at *
  generalize dvN n 1 = d1 at *
  have key : n = 18446744073709551616 * d8 + (((((((((0 * 256 + b7) * 256 + b6) * 256 + b5) * 256 + b4) * 256 + b3) * 256 + b2) * 256 + b1) * 256 + b0 : Nat) : Int) := by omega
  have hlt : (((((((0 * 256 + b7) * 256 + b6) * 256 + b5) * 256 + b4) * 256 + b3) * 256 + b2) * 256 + b1) * 256 + b0 < 18446744073709551616 := by omega
  generalize (((((((0 * 256 + b7) * 256 + b6) * 256 + b5) * 256 + b4) * 256 + b3) * 256 + b2) * 256 + b1) * 256 + b0 = V at *
  clear s0 s1 s2 s3 s4 s5 s6 s7 e0
  omega
theorem numB_numI (b7 b6 b5 b4 b3 b2 b1 b0 : Nat) (h7 : b7 < 256) (h6 : b6 < 256) (h5 : b5 < 256) (h4 : b4 < 256) (h3 : b3 < 256) (h2 : b2 < 256) (h1 : b1 < 256) (h0 : b0 < 256) :
    numB (numI [b7, b6, b5, b4, b3, b2, b1, b0]) = [b7, b6, b5, b4, b3, b2, b1, b0] := by
  have hV : ∃ c : Int, numI [b7, b6, b5, b4, b3, b2, b1, b0] = 18446744073709551616 * c + (((((((((0 * 256 + b7) * 256 + b6) * 256 + b5) * 256 + b4) * 256 + b3) * 256 + b2) * 256 + b1) * 256 + b0 : Nat) : Int) := by
    unfold numI valN
    rw [IntKind.wrap_i64]
    simp only [List.foldl_cons, List.foldl_nil]
    generalize (((((((0 * 256 + b7) * 256 + b6) * 256 + b5) * 256 + b4) * 256 + b3) * 256 + b2) * 256 + b1) * 256 + b0 = V
    exact ⟨((V : Int) + 9223372036854775808) / 18446744073709551616 * (-1), by omega⟩
  obtain ⟨c, hc⟩ := hV
  generalize numI [b7, b6, b5, b4, b3, b2, b1, b0] = n at *
  have e0 := dig (x := n) (y := 72057594037927936 * c + ((((((((b7 : Nat) * 256 + b6) * 256 + b5) * 256 + b4) * 256 + b3) * 256 + b2) * 256 + b1 : Nat) : Int)) (b := (b0 : Int)) (by omega) (by omega) (by omega)
  have e1 := dig (x := n / 256) (y := 281474976710656 * c + (((((((b7 : Nat) * 256 + b6) * 256 + b5) * 256 + b4) * 256 + b3) * 256 + b2 : Nat) : Int)) (b := (b1 : Int)) (by rw [e0.1]; omega) (by omega) (by omega)
  have e2 := dig (x := n / 256 / 256) (y := 1099511627776 * c + ((((((b7 : Nat) * 256 + b6) * 256 + b5) * 256 + b4) * 256 + b3 : Nat) : Int)) (b := (b2 : Int)) (by rw [e1.1]; omega) (by omega) (by omega)
  have e3 := dig (x := n / 256 / 256 / 256) (y := 4294967296 * c + (((((b7 : Nat) * 256 + b6) * 256 + b5) * 256 + b4 : Nat) : Int)) (b := (b3 : Int)) (by rw [e2.1]; omega) (by omega) (by omega)
  have e4 := dig (x := n / 256 / 256 / 256 / 256) (y := 16777216 * c + ((((b7 : Nat) * 256 + b6) * 256 + b5 : Nat) : Int)) (b := (b4 : Int)) (by rw [e3.1]; omega) (by omega) (by omega)
  have e5 := dig (x := n / 256 / 256 / 256 / 256 / 256) (y := 65536 * c + (((b7 : Nat) * 256 + b6 : Nat) : Int)) (b := (b5 : Int)) (by rw [e4.1]; omega) (by omega) (by omega)
  have e6 := dig (x := n / 256 / 256 / 256 / 256 / 256 / 256) (y := 256 * c + (b7 : Int)) (b := (b6 : Int)) (by rw [e5.1]; omega) (by omega) (by omega)
  have e7 := dig (x := n / 256 / 256 / 256 / 256 / 256 / 256 / 256) (y := c) (b := (b7 : Int)) (by rw [e6.1]) (by omega) (by omega)
  unfold numB
  rw [byteN_eq, byteN_eq, byteN_eq, byteN_eq, byteN_eq, byteN_eq, byteN_eq, byteN_eq]
  simp only [dvN]
  rw [e0.2, e1.2, e2.2, e3.2, e4.2, e5.2, e6.2, e7.2]
  simp
theorem getD_mid {pre mid post : List Nat} {j : Nat} (h : j < mid.length) : (pre ++ mid ++ post).getD (pre.length + j) 0 = mid.getD j 0 := by
  rw [List.append_assoc, List.getD_eq_getElem?_getD, List.getD_eq_getElem?_getD, List.getElem?_append_right (by omega), Nat.add_sub_cancel_left, List.getElem?_append_left h]
theorem take_mid {pre mid post : List Nat} {k : Nat} (h : k = mid.length) : ((pre ++ mid ++ post).drop pre.length).take k = mid := by
  rw [List.append_assoc, List.drop_left, h, List.take_left]
theorem insB_need (i : Ins) (h : 0 ≤ i.op) : (insB i).length = needI i.op.toNat := by
  unfold insB needI
  rw [show ((i.op.toNat : Nat) : Int) = i.op by omega]
  by_cases hl : longB i.op = true
  · rw [if_pos hl, if_pos hl]; simp [headB, numB]
  · rw [if_neg hl, if_neg hl]; simp [headB]
theorem rdI_ins {i : Ins} (hf : fitsI i = true) (hb : badI i = false) (hn : I64 i.n) (pre post : List Nat) : rdI (pre ++ insB i ++ post) pre.length = .ok i (pre.length + (insB i).length) := by
  obtain ⟨⟨o1, o2⟩, ⟨a1, a2⟩, ⟨b1, b2⟩, ⟨c1, c2⟩⟩ := fitsI_of hf
  have hop : isOpB i.op = true := by unfold isOpB; simp; omega
  have hlen : 4 ≤ (insB i).length := by unfold insB; simp [headB]
  have g0 : (pre ++ insB i ++ post).getD pre.length 0 = i.op.toNat := by
    have := getD_mid (pre := pre) (mid := insB i) (post := post) (j := 0) (by omega)
    rw [Nat.add_zero] at this
    rw [this]; rfl
  have g1 : (pre ++ insB i ++ post).getD (pre.length + 1) 0 = i.a.toNat := by rw [getD_mid (by omega)]; rfl
  have g2 : (pre ++ insB i ++ post).getD (pre.length + 2) 0 = i.b.toNat := by rw [getD_mid (by omega)]; rfl
  have g3 : (pre ++ insB i ++ post).getD (pre.length + 3) 0 = i.c.toNat := by rw [getD_mid (by omega)]; rfl
  have hnd := insB_need i o1
  unfold rdI
  rw [if_neg (by simp only [List.length_append]; omega), g0, show ((i.op.toNat : Nat) : Int) = i.op by omega, if_neg (by rw [hop]; decide), if_neg (by simp only [List.length_append]; omega), ← hnd]
  congr 1
  unfold insR
  rw [g0, g1, g2, g3, show ((i.op.toNat : Nat) : Int) = i.op by omega, show ((i.a.toNat : Nat) : Int) = i.a by omega, show ((i.b.toNat : Nat) : Int) = i.b by omega, show ((i.c.toNat : Nat) : Int) = i.c by omega]
  obtain ⟨op, a, b, c, n⟩ := i
  simp only at *
  congr 1
  by_cases hl : longB op = true
  · rw [if_pos hl]
    have e : insB ⟨op, a, b, c, n⟩ = headB ⟨op, a, b, c, n⟩ ++ numB n := by unfold insB; rw [if_pos hl]
    rw [e]
    have e2 : pre ++ (headB ⟨op, a, b, c, n⟩ ++ numB n) ++ post = (pre ++ headB ⟨op, a, b, c, n⟩) ++ numB n ++ post := by simp only [List.append_assoc]
    have e3 : pre.length + 4 = (pre ++ headB ⟨op, a, b, c, n⟩).length := by simp [headB]
    rw [e2, e3, take_mid (by rfl)]
    exact numI_numB n hn
  · rw [if_neg hl]
    unfold badI at hb
    have hl2 : longB op = false := by simpa using hl
    rw [hl2] at hb
    simp at hb
    exact hb.symm
theorem flat_split {α : Type} (f : α → List Nat) (xs : List α) (k : Nat) (h : k < xs.length) : xs.flatMap f = (xs.take k).flatMap f ++ f xs[k] ++ (xs.drop (k + 1)).flatMap f := by
  conv => lhs; rw [← List.take_append_drop k xs, List.drop_eq_getElem_cons h]
  rw [List.flatMap_append, List.flatMap_cons, List.append_assoc]
theorem rdCode_ins {code : List Ins} (hf : ∀ i ∈ code, fitsI i = true) (hb : ∀ i ∈ code, badI i = false) (hn : ∀ i ∈ code, I64 i.n) (pre post : List Nat) :
    ∀ k, k ≤ code.length → rdCode (pre ++ code.flatMap insB ++ post) pre.length k = .ok (code.take k) (pre.length + ((code.take k).flatMap insB).length)
  | 0, _ => by simp [rdCode]
  | k + 1, hk => by
    have ih := rdCode_ins hf hb hn pre post k (by omega)
    have hkl : k < code.length := by omega
    unfold rdCode
    rw [ih]
    simp only
    have hm := List.getElem_mem hkl
    have e : pre ++ code.flatMap insB ++ post = (pre ++ (code.take k).flatMap insB) ++ insB code[k] ++ ((code.drop (k + 1)).flatMap insB ++ post) := by
      rw [flat_split insB code k hkl]; simp only [List.append_assoc]
    have e2 : pre.length + ((code.take k).flatMap insB).length = (pre ++ (code.take k).flatMap insB).length := by rw [List.length_append]
    rw [e, e2, rdI_ins (hf _ hm) (hb _ hm) (hn _ hm)]
    simp only
    rw [List.take_succ_eq_append_getElem hkl, List.flatMap_append, List.length_append, List.length_append]
    simp [Nat.add_assoc]
theorem rdF_fn {f : Fn} (h1 : f.code.length ≤ 64) (h2 : f.safe.length = f.code.length) (hf : ∀ i ∈ f.code, fitsI i = true) (hb : ∀ i ∈ f.code, badI i = false) (hn : ∀ i ∈ f.code, I64 i.n) (pre post : List Nat) :
    rdF (pre ++ fnB f ++ post) pre.length = .ok f (pre.length + (fnB f).length) := by
  obtain ⟨code, safe⟩ := f
  simp only at *
  have hl : fnB ⟨code, safe⟩ = code.length :: (code.flatMap insB ++ bytesOf safe) := rfl
  have g0 : (pre ++ fnB ⟨code, safe⟩ ++ post).getD pre.length 0 = code.length := by
    have := getD_mid (pre := pre) (mid := fnB ⟨code, safe⟩) (post := post) (j := 0) (by rw [hl]; simp)
    rw [Nat.add_zero] at this
    rw [this]; rfl
  have e1 : pre ++ fnB ⟨code, safe⟩ ++ post = (pre ++ [code.length]) ++ code.flatMap insB ++ (bytesOf safe ++ post) := by rw [hl]; simp
  have e2 : pre.length + 1 = (pre ++ [code.length]).length := by simp
  have hc := rdCode_ins hf hb hn (pre ++ [code.length]) (bytesOf safe ++ post) code.length (Nat.le_refl _)
  rw [List.take_length] at hc
  have hsz : sizeS code.length = (bytesOf safe).length := by rw [bytesOf_len]; unfold sizeS; rw [h2]
  obtain ⟨p1, p2⟩ := parse_bytes safe (by omega)
  have hpn : parseN (bytesOf safe) = code.length := by rw [← parseL_len, p2, h2]
  unfold rdF
  rw [if_neg (by simp only [List.length_append]; rw [hl]; simp; omega), g0, if_neg (by omega), e1, e2, hc]
  simp only
  have e3 : (pre ++ [code.length]) ++ code.flatMap insB ++ (bytesOf safe ++ post) = ((pre ++ [code.length]) ++ code.flatMap insB) ++ bytesOf safe ++ post := by simp only [List.append_assoc]
  have e4 : (pre ++ [code.length]).length + (code.flatMap insB).length = ((pre ++ [code.length]) ++ code.flatMap insB).length := by simp; omega
  have e5 : ((pre ++ [code.length] ++ code.flatMap insB ++ (bytesOf safe ++ post)).drop ((pre ++ [code.length]).length + (code.flatMap insB).length)).take (sizeS code.length) = bytesOf safe := by
    rw [e3, e4]; exact take_mid hsz
  rw [if_neg (by rw [hsz]; simp only [List.length_append]; omega)]
  unfold okS
  rw [e5, p1, hpn, p2]
  simp [hl, hsz]
  omega
theorem rdFs_fn {fs : List Fn} (hall : ∀ f ∈ fs, f.code.length ≤ 64 ∧ f.safe.length = f.code.length ∧ (∀ i ∈ f.code, fitsI i = true) ∧ (∀ i ∈ f.code, badI i = false) ∧ (∀ i ∈ f.code, I64 i.n)) (pre post : List Nat) :
    ∀ k, k ≤ fs.length → rdFs (pre ++ fs.flatMap fnB ++ post) pre.length k = .ok (fs.take k) (pre.length + ((fs.take k).flatMap fnB).length)
  | 0, _ => by simp [rdFs]
  | k + 1, hk => by
    have ih := rdFs_fn hall pre post k (by omega)
    have hkl : k < fs.length := by omega
    unfold rdFs
    rw [ih]
    simp only
    obtain ⟨h1, h2, h3, h4, h5⟩ := hall _ (List.getElem_mem hkl)
    have e : pre ++ fs.flatMap fnB ++ post = (pre ++ (fs.take k).flatMap fnB) ++ fnB fs[k] ++ ((fs.drop (k + 1)).flatMap fnB ++ post) := by
      rw [flat_split fnB fs k hkl]; simp only [List.append_assoc]
    have e2 : pre.length + ((fs.take k).flatMap fnB).length = (pre ++ (fs.take k).flatMap fnB).length := by rw [List.length_append]
    rw [e, e2, rdF_fn h1 h2 h3 h4 h5]
    simp only
    rw [List.take_succ_eq_append_getElem hkl, List.flatMap_append, List.length_append, List.length_append]
    simp [Nat.add_assoc]
theorem printOk_of {fs : List Fn} (h : printOk fs = true) : fs.length ≤ 16 ∧ ∀ f ∈ fs, f.code.length ≤ 64 ∧ f.safe.length = f.code.length ∧ (∀ i ∈ f.code, fitsI i = true) ∧ (∀ i ∈ f.code, badI i = false) := by
  unfold printOk at h
  rw [Bool.and_eq_true, List.all_eq_true] at h
  obtain ⟨h1, h2⟩ := h
  obtain ⟨h3, h4⟩ := fitsP_of h1
  refine ⟨h3, fun f hf => ?_⟩
  obtain ⟨a, b, c⟩ := h4 f hf
  have h5 := h2 f hf
  unfold goodF at h5
  rw [List.all_eq_true] at h5
  exact ⟨a, b, c, fun i hi => by simpa using h5 i hi⟩
/-- A program is parsed as it was. -/
theorem rdP_print {fs : List Fn} (h : printOk fs = true) (hn : ∀ f ∈ fs, ∀ i ∈ f.code, I64 i.n) : rdP (progB fs) = .ok fs 0 := by
  obtain ⟨h1, h2⟩ := printOk_of h
  have hp : progB fs = [fs.length] ++ fs.flatMap fnB ++ [] := by simp [progB]
  have hc := rdFs_fn (fun f hf => ⟨(h2 f hf).1, (h2 f hf).2.1, (h2 f hf).2.2.1, (h2 f hf).2.2.2, hn f hf⟩) [fs.length] [] fs.length (Nat.le_refl _)
  rw [List.take_length, ← hp] at hc
  have hc' : rdFs (progB fs) 1 fs.length = .ok fs (1 + (fs.flatMap fnB).length) := hc
  have g0 : (progB fs).getD 0 0 = fs.length := rfl
  have hl : (progB fs).length = 1 + (fs.flatMap fnB).length := by simp [progB]; omega
  unfold rdP
  rw [if_neg (by omega), g0, if_neg (by omega), hc']
  simp only
  rw [if_neg (by omega)]
theorem take_split {l : List Nat} {p q r : Nat} (h1 : p ≤ q) (h2 : q ≤ r) : (l.drop p).take (r - p) = (l.drop p).take (q - p) ++ (l.drop q).take (r - q) := by
  rw [show r - p = (q - p) + (r - q) by omega, List.take_add, List.drop_drop, show p + (q - p) = q by omega]
theorem take4 {l : List Nat} {p : Nat} (h : p + 4 ≤ l.length) : (l.drop p).take 4 = [l.getD p 0, l.getD (p + 1) 0, l.getD (p + 2) 0, l.getD (p + 3) 0] := by
  apply List.ext_getElem
  · simp; omega
  · intro i h1 h2
    have hi : i < 4 := by simpa using h2
    have : i = 0 ∨ i = 1 ∨ i = 2 ∨ i = 3 := by omega
    rcases this with rfl | rfl | rfl | rfl <;> simp [show p < l.length by omega, show p + 1 < l.length by omega, show p + 2 < l.length by omega, show p + 3 < l.length by omega]
theorem num_back {bs : List Nat} (h8 : bs.length = 8) (hb : ∀ x ∈ bs, x < 256) : numB (numI bs) = bs := by
  match bs, h8 with
  | [a, b, c, d, e, f, g, i], _ =>
    exact numB_numI a b c d e f g i (hb a (by simp)) (hb b (by simp)) (hb c (by simp)) (hb d (by simp)) (hb e (by simp)) (hb f (by simp)) (hb g (by simp)) (hb i (by simp))
theorem getD_lt {l : List Nat} (hb : ∀ x ∈ l, x < 256) (q : Nat) : l.getD q 0 < 256 := by
  by_cases h : q < l.length
  · have : l.getD q 0 = l[q] := by simp [h]
    rw [this]; exact hb _ (List.getElem_mem h)
  · simp [h]
theorem rdI_back {l : List Nat} (hb : ∀ x ∈ l, x < 256) {p q : Nat} {i : Ins} (h : rdI l p = .ok i q) : p ≤ q ∧ q ≤ l.length ∧ insB i = (l.drop p).take (q - p) ∧ fitsI i = true ∧ badI i = false := by
  unfold rdI at h
  split at h
  · cases h
  rename_i h1
  split at h
  · cases h
  rename_i h2
  split at h
  · cases h
  rename_i h3
  injection h with h4 h5
  have hop : isOpB ((l.getD p 0 : Nat) : Int) = true := by simpa using h2
  have g0 := getD_lt hb p
  have g1 := getD_lt hb (p + 1)
  have g2 := getD_lt hb (p + 2)
  have g3 := getD_lt hb (p + 3)
  have hge := needI_ge (l.getD p 0)
  refine ⟨by omega, by omega, ?_, ?_, ?_⟩
  · rw [← h4]
    have hh : headB (insR l p) = (l.drop p).take 4 := by
      rw [take4 (by omega)]
      unfold headB insR
      simp only [Int.toNat_natCast]
    by_cases hl : longB ((l.getD p 0 : Nat) : Int) = true
    · have hn : needI (l.getD p 0) = 12 := by unfold needI; rw [if_pos hl]
      have e1 : insB (insR l p) = headB (insR l p) ++ numB (numI ((l.drop (p + 4)).take 8)) := by
        unfold insB
        rw [if_pos (show longB (insR l p).op = true from hl)]
        congr 2
        unfold insR
        simp only
        rw [if_pos hl]
      rw [e1, hh, num_back (by rw [List.length_take, List.length_drop]; omega) (fun x hx => hb x (List.mem_of_mem_drop (List.mem_of_mem_take hx)))]
      have := take_split (l := l) (p := p) (q := p + 4) (r := q) (by omega) (by omega)
      rw [this, show p + 4 - p = 4 by omega, show q - (p + 4) = 8 by omega]
    · have hn : needI (l.getD p 0) = 4 := by unfold needI; rw [if_neg hl]
      have e1 : insB (insR l p) = headB (insR l p) := by
        unfold insB
        rw [if_neg (show ¬ longB (insR l p).op = true from hl)]
        simp
      rw [e1, hh, show q - p = 4 by omega]
  · rw [← h4]
    unfold fitsI
    have k0 : isOpB (insR l p).op = true := hop
    have k1 : nar (insR l p).a = true := by unfold nar insR; simp only [Bool.and_eq_true, decide_eq_true_eq]; omega
    have k2 : nar (insR l p).b = true := by unfold nar insR; simp only [Bool.and_eq_true, decide_eq_true_eq]; omega
    have k3 : nar (insR l p).c = true := by unfold nar insR; simp only [Bool.and_eq_true, decide_eq_true_eq]; omega
    rw [k0, k1, k2, k3]; rfl
  · rw [← h4]
    unfold badI
    by_cases hl : longB ((l.getD p 0 : Nat) : Int) = true
    · have : longB (insR l p).op = true := hl
      rw [this]; rfl
    · have hl2 : longB (insR l p).op = false := Bool.eq_false_iff.2 hl
      have : (insR l p).n = 0 := by unfold insR; simp only; rw [if_neg hl]
      rw [hl2, this]; rfl
theorem rdCode_back {l : List Nat} (hb : ∀ x ∈ l, x < 256) {p : Nat} (hp : p ≤ l.length) : ∀ k xs q, rdCode l p k = .ok xs q → p ≤ q ∧ q ≤ l.length ∧ xs.flatMap insB = (l.drop p).take (q - p) ∧ (∀ i ∈ xs, fitsI i = true) ∧ (∀ i ∈ xs, badI i = false)
  | 0, xs, q, h => by
    unfold rdCode at h
    injection h with h1 h2
    subst h1 h2
    simp [hp]
  | k + 1, xs, q, h => by
    unfold rdCode at h
    cases h1 : rdCode l p k with
    | bad q => rw [h1] at h; cases h
    | ok ys r =>
      rw [h1] at h
      simp only at h
      obtain ⟨a1, a2, a3, a4, a5⟩ := rdCode_back hb hp k ys r h1
      cases h2 : rdI l r with
      | bad q => rw [h2] at h; cases h
      | ok j r' =>
        rw [h2] at h
        simp only at h
        injection h with h3 h4
        subst h3 h4
        obtain ⟨b1, b2, b3, b4, b5⟩ := rdI_back hb h2
        refine ⟨by omega, b2, ?_, ?_, ?_⟩
        · rw [List.flatMap_append, a3, take_split a1 b1, ← b3]; simp
        · intro i hi
          rw [List.mem_append, List.mem_singleton] at hi
          rcases hi with hi | rfl
          · exact a4 i hi
          · exact b4
        · intro i hi
          rw [List.mem_append, List.mem_singleton] at hi
          rcases hi with hi | rfl
          · exact a5 i hi
          · exact b5
theorem dropOne7 {l : List Nat} {p : Nat} (h : p < l.length) : (l.drop p).take 1 = [l.getD p 0] := by
  apply List.ext_getElem
  · simp; omega
  · intro i h1 h2
    have hi : i = 0 := by simpa using h2
    subst hi
    simp [h]
theorem rdF_back {l : List Nat} (hb : ∀ x ∈ l, x < 256) {p q : Nat} {f : Fn} (h : rdF l p = .ok f q) : p ≤ q ∧ q ≤ l.length ∧ fnB f = (l.drop p).take (q - p) ∧ fitsF f = true ∧ goodF f = true := by
  unfold rdF at h
  split at h
  · cases h
  rename_i h1
  split at h
  · cases h
  rename_i h2
  cases h3 : rdCode l (p + 1) (l.getD p 0) with
  | bad q => rw [h3] at h; cases h
  | ok xs r =>
    rw [h3] at h
    simp only at h
    split at h
    · cases h
    rename_i h4
    split at h
    · rename_i h5
      injection h with h6 h7
      obtain ⟨a1, a2, a3, a4, a5⟩ := rdCode_back hb (by omega) _ _ _ h3
      have hlen := rdCode_len l (p + 1) _ _ _ h3
      unfold okS at h5
      rw [Bool.and_eq_true, decide_eq_true_eq] at h5
      obtain ⟨h8, h9⟩ := h5
      unfold parseB at h8
      rw [Bool.and_eq_true] at h8
      have hbs : ∀ x ∈ (l.drop r).take (sizeS (l.getD p 0)), x < 256 := fun x hx => hb x (List.mem_of_mem_drop (List.mem_of_mem_take hx))
      have hby := (bytes_parse hbs h8.1).2 h8.2
      have hpl := parseL_len ((l.drop r).take (sizeS (l.getD p 0)))
      subst h6 h7
      refine ⟨by omega, by omega, ?_, ?_, ?_⟩
      · have e : fnB ⟨xs, parseL ((l.drop r).take (sizeS (l.getD p 0)))⟩ = xs.length :: (xs.flatMap insB ++ bytesOf (parseL ((l.drop r).take (sizeS (l.getD p 0))))) := rfl
        rw [e, hby, a3, hlen]
        rw [take_split (l := l) (p := p) (q := p + 1) (r := r + sizeS (l.getD p 0)) (by omega) (by omega), show p + 1 - p = 1 by omega, dropOne7 (by omega)]
        rw [take_split (l := l) (p := p + 1) (q := r) (r := r + sizeS (l.getD p 0)) a1 (by omega), show r + sizeS (l.getD p 0) - r = sizeS (l.getD p 0) by omega]
        rfl
      · unfold fitsF
        simp only [Bool.and_eq_true, decide_eq_true_eq, List.all_eq_true]
        exact ⟨⟨by omega, by rw [hpl, h9, hlen]⟩, a4⟩
      · unfold goodF
        simp only [List.all_eq_true]
        intro i hi
        simp [a5 i hi]
    · cases h
theorem rdFs_back {l : List Nat} (hb : ∀ x ∈ l, x < 256) {p : Nat} (hp : p ≤ l.length) : ∀ k xs q, rdFs l p k = .ok xs q → p ≤ q ∧ q ≤ l.length ∧ xs.flatMap fnB = (l.drop p).take (q - p) ∧ (∀ f ∈ xs, fitsF f = true) ∧ (∀ f ∈ xs, goodF f = true)
  | 0, xs, q, h => by
    unfold rdFs at h
    injection h with h1 h2
    subst h1 h2
    simp [hp]
  | k + 1, xs, q, h => by
    unfold rdFs at h
    cases h1 : rdFs l p k with
    | bad q => rw [h1] at h; cases h
    | ok ys r =>
      rw [h1] at h
      simp only at h
      obtain ⟨a1, a2, a3, a4, a5⟩ := rdFs_back hb hp k ys r h1
      cases h2 : rdF l r with
      | bad q => rw [h2] at h; cases h
      | ok j r' =>
        rw [h2] at h
        simp only at h
        injection h with h3 h4
        subst h3 h4
        obtain ⟨b1, b2, b3, b4, b5⟩ := rdF_back hb h2
        refine ⟨by omega, b2, ?_, ?_, ?_⟩
        · rw [List.flatMap_append, a3, take_split a1 b1, ← b3]; simp
        · intro i hi
          rw [List.mem_append, List.mem_singleton] at hi
          rcases hi with hi | rfl
          · exact a4 i hi
          · exact b4
        · intro i hi
          rw [List.mem_append, List.mem_singleton] at hi
          rcases hi with hi | rfl
          · exact a5 i hi
          · exact b5
/-- What is parsed has just those bytes. -/
theorem rdP_back {l : List Nat} (hb : ∀ x ∈ l, x < 256) {q : Nat} {fs : List Fn} (h : rdP l = .ok fs q) : q = 0 ∧ printOk fs = true ∧ progB fs = l := by
  unfold rdP at h
  split at h
  · cases h
  rename_i h1
  split at h
  · cases h
  rename_i h2
  cases h3 : rdFs l 1 (l.getD 0 0) with
  | bad q => rw [h3] at h; cases h
  | ok xs r =>
    rw [h3] at h
    simp only at h
    split at h
    · cases h
    rename_i h4
    injection h with h5 h6
    subst h5
    obtain ⟨a1, a2, a3, a4, a5⟩ := rdFs_back hb (by omega) _ _ _ h3
    have hlen := rdFs_len l 1 _ _ _ h3
    refine ⟨h6.symm, ?_, ?_⟩
    · unfold printOk fitsP
      simp only [Bool.and_eq_true, decide_eq_true_eq, List.all_eq_true]
      exact ⟨⟨by omega, a4⟩, a5⟩
    · have e : progB xs = xs.length :: xs.flatMap fnB := rfl
      rw [e, a3, hlen, show r = l.length by omega]
      have h7 := take_split (l := l) (p := 0) (q := 1) (r := l.length) (by omega) (by omega)
      rw [List.drop_zero, Nat.sub_zero, List.take_length] at h7
      have h8 := dropOne7 (l := l) (p := 0) (by omega)
      rw [List.drop_zero] at h8
      rw [Nat.sub_zero, h8] at h7
      exact h7.symm
theorem rdP_bad {l : List Nat} {q : Nat} (h : rdP l = .bad q) : q ≤ l.length := by
  unfold rdP at h
  split at h
  · injection h with h; omega
  rename_i h1
  split at h
  · injection h with h; omega
  have hin := rdFs_in l 1 (by omega) (l.getD 0 0)
  cases h3 : rdFs l 1 (l.getD 0 0) with
  | bad r =>
    rw [h3] at h hin
    injection h with h
    subst h; exact hin
  | ok xs r =>
    rw [h3] at h hin
    simp only at h
    split at h
    · injection h with h
      subst h; exact hin
    · cases h
end Go.Proofs.YthcbceaeobnmgaaDoor

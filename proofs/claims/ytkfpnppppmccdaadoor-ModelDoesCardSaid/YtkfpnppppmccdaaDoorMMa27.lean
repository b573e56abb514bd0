/-
  Chapter 27: a model in memory, changed: its holder and owner, one of its goroutines.
-/
import Derived.Test.YtkfpnppppmccdaaDoorMVm
import Derived.Test.YtkfpnppppmccdaaDoorSch
import Derived.LaidEqlPtr
namespace Go.Proofs.YtkfpnppppmccdaaDoor
open Go.RowKit
/-- A goroutine. -/
structure Go where
  th : Th
  blk : Bool
  tok : Bool
  sus : Bool
  beg : Bool
/-- A model: how many there may be, its goroutines, the holder and the owner. -/
structure Md where
  gs : Int
  l : List Go
  holder : Int
  owner : Int
def goArr (x : Go) (B : Option Addr) (d : Nat) : Array Value := ((thArr x.th B d).toList ++ [Value.bool x.blk, .bool x.tok, .bool x.sus, .bool x.beg]).toArray
def pptr (g : Nat) : Value := .pointer (some ⟨g, 0, none⟩)
theorem goArr_th (x : Go) (B : Option Addr) (d : Nat) (h : x.th.regs.length = 8) (j : Nat) (hj : j < 12) : (goArr x B d)[j]? = (thArr x.th B d)[j]? := by
  have hs := thArr_size B d h
  unfold goArr
  rw [List.getElem?_toArray, List.getElem?_append_left (by simp [hs]; omega)]
  simp
theorem goArr_end (x : Go) (B : Option Addr) (d : Nat) (h : x.th.regs.length = 8) (j : Nat) : (goArr x B d)[12 + j]? = [Value.bool x.blk, .bool x.tok, .bool x.sus, .bool x.beg][j]? := by
  have hs := thArr_size B d h
  unfold goArr
  rw [List.getElem?_toArray, List.getElem?_append_right (by simp [hs])]
  congr 1
  simp [hs]
/-- A model in memory: its block gm, its goroutines' blocks ps, the row of pointers at L, the stacks at Bs. -/
structure MdIs (w : World) (m gm : Nat) (F : Option Addr) (fc : Nat) (fs : List Fn) (M : Md) (ps : List Nat) (L : Option Addr) (c : Nat) (Bs : List (Option Addr × Nat)) : Prop where
  head : Blk w gm 71 #[.slice F fs.length fc, .int .i64 M.gs, .slice L ps.length c, .int .i64 M.holder, .int .i64 M.owner]
  lp : ps.length = M.l.length
  lb : Bs.length = M.l.length
  row : Own w m 65 1 L ps.length c (ps.map pptr)
  mem : ∀ (k : Nat) (h : k < M.l.length), Blk w (ps[k]'(by omega)) 68 (goArr M.l[k] (Bs[k]'(by omega)).1 (Bs[k]'(by omega)).2)
  th : ∀ (k : Nat) (h : k < M.l.length), ThOk w w.heap.size M.l[k].th (Bs[k]'(by omega)).1 (Bs[k]'(by omega)).2
  far : ∀ (k : Nat) (h : k < M.l.length), M.l[k].th.stack ≠ [] → ∀ (b : Nat), ob (Bs[k]'(by omega)).1 = some b → b ≠ gm ∧ b ∉ ps ∧ ob L ≠ some b
  nd : ps.Nodup
  ng : gm ∉ ps ∧ ∀ b, ob L = some b → b ≠ gm ∧ b ∉ ps
  fits : ∀ (k : Nat) (h : k < M.l.length), fitsT fs M.l[k].th = true
  stk : ∀ (k : Nat) (h : k < M.l.length), M.l[k].th.stack.length ≤ 40
  prog : FnsOk w m F fs ∧ fs.length ≤ maxLen
  low : m ≤ gm ∧ ∀ p ∈ ps, m ≤ p
  few : M.l.length ≤ 100
theorem MdIs.five {w : World} {m gm : Nat} {F : Option Addr} {fc : Nat} {fs : List Fn} {M : Md} {ps : List Nat} {L : Option Addr} {c : Nat} {Bs : List (Option Addr × Nat)} (h : MdIs w m gm F fc fs M ps L c Bs) :
    w.cell? ⟨gm, 0, none⟩ = some (.slice F fs.length fc) ∧ w.cell? ⟨gm, 1, none⟩ = some (.int .i64 M.gs) ∧ w.cell? ⟨gm, 2, none⟩ = some (.slice L ps.length c) ∧ w.cell? ⟨gm, 3, none⟩ = some (.int .i64 M.holder) ∧ w.cell? ⟨gm, 4, none⟩ = some (.int .i64 M.owner) :=
  ⟨(h.head.cell 0).trans rfl, (h.head.cell 1).trans rfl, (h.head.cell 2).trans rfl, (h.head.cell 3).trans rfl, (h.head.cell 4).trans rfl⟩
theorem MdIs.ptr {w : World} {m gm : Nat} {F : Option Addr} {fc : Nat} {fs : List Fn} {M : Md} {ps : List Nat} {L : Option Addr} {c : Nat} {Bs : List (Option Addr × Nat)} (h : MdIs w m gm F fc fs M ps L c Bs) (k : Nat) (hk : k < M.l.length) :
    ∃ b, L = some ⟨b, 0, none⟩ ∧ m ≤ b ∧ b < w.heap.size ∧ w.cell? ⟨b, k, none⟩ = some (pptr (ps[k]'(by have := h.lp; omega))) := by
  have hl := h.lp
  rcases h.row.2 with ⟨hv, hn⟩ | ⟨g, cap, cur, hv, hb, hh, h4, h5, h6, h7⟩
  · omega
  · injection hv with hA hn hc
    refine ⟨g, hA, hb, Blk.lt hh, ?_⟩
    rw [Blk.cell hh k]
    have h8 : (cur.toList.take (ps.length * 1))[k]? = some (pptr (ps[k]'(by omega))) := by
      rw [h7]
      simp [show k < ps.length by omega]
    rw [List.getElem?_take, if_pos (by omega)] at h8
    simpa using h8
/-- Which goroutine an id names. -/
def getM (M : Md) (r : Int) : Option Nat := if 1 ≤ r ∧ r ≤ M.l.length then some (r - 1).toNat else none
theorem getM_lt {M : Md} {r : Int} {k : Nat} (h : getM M r = some k) : k < M.l.length ∧ r = k + 1 := by
  unfold getM at h
  split at h
  · injection h with h
    omega
  · cases h
/-- A goroutine as a value. -/
def gVal (ps : List Nat) : Option Nat → Value
  | none => .pointer none
  | some k => pptr (ps.getD k 0)
theorem get_any {w : World} {m gm : Nat} {F : Option Addr} {fc : Nat} {fs : List Fn} {M : Md} {ps : List Nat} {L : Option Addr} {c : Nat} {Bs : List (Option Addr × Nat)} (h : MdIs w m gm F fc fs M ps L c Bs) (r : Int) :
    Calls Tryd.prog 35 #[.pointer (some ⟨gm, 0, none⟩), .int .i64 r] w fun e w' => e = .returned (gVal ps (getM M r)) ∧ w = w' := by
  obtain ⟨-, -, q2, -, -⟩ := h.five
  have hl := h.lp
  have hf := h.few
  by_cases h1 : r < 1
  · have hg : getM M r = none := by unfold getM; rw [if_neg (by omega)]
    rw [hg]
    clear h hg
    go_enter Tryd.func35, Tryd.ntmps35
    go_wp2
    go_ret
    exact ⟨rfl, rfl⟩
  · by_cases h2 : (ps.length : Int) < r
    · have hg : getM M r = none := by unfold getM; rw [if_neg (by omega)]
      rw [hg]
      clear h hg
      go_enter Tryd.func35, Tryd.ntmps35
      go_wp2
      go_ret
      exact ⟨rfl, rfl⟩
    · have hg : getM M r = some (r - 1).toNat := by unfold getM; rw [if_pos (by omega)]
      obtain ⟨k, rfl⟩ : ∃ k : Nat, r = (k : Int) + 1 := ⟨(r - 1).toNat, by omega⟩
      have hk : k < M.l.length := by omega
      obtain ⟨b, rfl, -, -, hc⟩ := h.ptr k hk
      have he : (((k : Int) + 1 - 1).toNat) = k := by omega
      rw [hg, he]
      have hv : gVal ps (some k) = pptr (ps[k]'(by omega)) := by
        unfold gVal
        simp [show k < ps.length by omega]
      rw [hv]
      generalize ps[k]'(by omega) = p at hc ⊢
      unfold pptr at hc ⊢
      have hkp : k < ps.length := by omega
      clear h hg hv he h2
      go_enter Tryd.func35, Tryd.ntmps35
      go_wp2
      go_ret
      exact ⟨rfl, rfl⟩
theorem get_nil (r : Int) (w : World) : Calls Tryd.prog 35 #[.pointer none, .int .i64 r] w fun e w' => e = .returned (.pointer none) ∧ w = w' := by
  go_enter Tryd.func35, Tryd.ntmps35
  go_wp2
  go_ret
  exact ⟨rfl, rfl⟩
end Go.Proofs.YtkfpnppppmccdaaDoor
namespace Go.Proofs.YtkfpnppppmccdaaDoor
open Go.RowKit
def go0 : Go := ⟨⟨0, 0, [], [], false⟩, false, false, false, false⟩
def goAt (M : Md) (k : Nat) : Go := M.l.getD k go0
theorem goAt_eq {M : Md} {k : Nat} (h : k < M.l.length) : goAt M k = M.l[k] := by simp [goAt, h]
/-- The cells of a goroutine. -/
structure GoCells (w : World) (p : Nat) (x : Go) : Prop where
  fn : w.cell? ⟨p, 0, none⟩ = some (.int .i64 x.th.fn)
  pc : w.cell? ⟨p, 1, none⟩ = some (.int .i64 x.th.pc)
  reg : ∀ r, r < 8 → w.cell? ⟨p, 2 + r, none⟩ = some (.int .i64 (x.th.regs.getD r 0))
  done : w.cell? ⟨p, 11, none⟩ = some (.bool x.th.done)
  blk : w.cell? ⟨p, 12, none⟩ = some (.bool x.blk)
  tok : w.cell? ⟨p, 13, none⟩ = some (.bool x.tok)
  sus : w.cell? ⟨p, 14, none⟩ = some (.bool x.sus)
  beg : w.cell? ⟨p, 15, none⟩ = some (.bool x.beg)
theorem go_cells {w : World} {p : Nat} {x : Go} {B : Option Addr} {d : Nat} (h : Blk w p 68 (goArr x B d)) (hr : x.th.regs.length = 8) : GoCells w p x :=
  ⟨(h.cell 0).trans ((goArr_th x B d hr 0 (by omega)).trans (thArr_0 _ _)), (h.cell 1).trans ((goArr_th x B d hr 1 (by omega)).trans (thArr_1 _ _)), fun r hr' => (h.cell (2 + r)).trans ((goArr_th x B d hr (2 + r) (by omega)).trans (thArr_reg _ _ hr r hr')), (h.cell 11).trans ((goArr_th x B d hr 11 (by omega)).trans (thArr_11 _ _ hr)), (h.cell 12).trans (goArr_end x B d hr 0), (h.cell 13).trans (goArr_end x B d hr 1), (h.cell 14).trans (goArr_end x B d hr 2), (h.cell 15).trans (goArr_end x B d hr 3)⟩
section
variable {w : World} {m gm : Nat} {F : Option Addr} {fc : Nat} {fs : List Fn} {M : Md} {ps : List Nat} {L : Option Addr} {c : Nat} {Bs : List (Option Addr × Nat)}
theorem MdIs.go (h : MdIs w m gm F fc fs M ps L c Bs) {k : Nat} (hk : k < M.l.length) : ∃ p, ps[k]? = some p ∧ gVal ps (some k) = .pointer (some ⟨p, 0, none⟩) ∧ GoCells w p (goAt M k) := by
  have hl := h.lp
  refine ⟨ps[k]'(by omega), List.getElem?_eq_getElem _, ?_, ?_⟩
  · unfold gVal pptr
    simp [show k < ps.length by omega]
  · rw [goAt_eq hk]
    exact go_cells (h.mem k hk) (h.th k hk).regs
/-- May it act? -/
def actsP (M : Md) (g : Int) : Bool :=
  match getM M g with
  | none => false
  | some k => !(goAt M k).th.done && (!(goAt M k).blk && (!(goAt M k).sus && (decide (M.holder = 0) || decide (M.holder = g))))
theorem acts_any (h : MdIs w m gm F fc fs M ps L c Bs) (g : Int) :
    Calls Tryd.prog 30 #[.pointer (some ⟨gm, 0, none⟩), .int .i64 g] w fun e w' => e = .returned (.bool (actsP M g)) ∧ w = w' := by
  have HG := Lib.hid (get_any h g)
  obtain ⟨-, -, -, q3, -⟩ := h.five
  unfold actsP
  cases hg : getM M g with
  | none =>
    rw [hg] at HG
    simp only [gVal] at HG ⊢
    clear h hg
    go_enter Tryd.func30, Tryd.ntmps30
    go_wp2_with (go_at_call 35; refine HG.out.mono ?_; rintro e w1 ⟨rfl, rfl⟩)
    go_ret
    exact ⟨rfl, rfl⟩
  | some k =>
    obtain ⟨p, -, hp, hc⟩ := h.go (getM_lt hg).1
    rw [hg, hp] at HG
    have d := hc.done
    have b := hc.blk
    have s := hc.sus
    simp only
    generalize (goAt M k).th.done = d1 at d ⊢
    generalize (goAt M k).blk = b1 at b ⊢
    generalize (goAt M k).sus = s1 at s ⊢
    generalize M.holder = hh at q3 ⊢
    clear h hg hp hc
    by_cases h0 : hh = 0
    · subst h0
      cases d1 <;> cases b1 <;> cases s1 <;>
      · go_enter Tryd.func30, Tryd.ntmps30
        go_wp2_with (go_at_call 35; refine HG.out.mono ?_; rintro e w1 ⟨rfl, rfl⟩)
        go_ret
        exact ⟨rfl, rfl⟩
    · have e0 : (hh == 0) = false := by simpa using h0
      have e1 : decide (hh = 0) = false := by simpa using h0
      rw [e1]
      by_cases hg2 : hh = g
      · have e2 : (hh == g) = true := by simpa using hg2
        have e3 : decide (hh = g) = true := by simpa using hg2
        rw [e3]
        clear h0 hg2 e1 e3
        cases d1 <;> cases b1 <;> cases s1 <;>
        · go_enter Tryd.func30, Tryd.ntmps30
          go_wp2_with (go_at_call 35; refine HG.out.mono ?_; rintro e w1 ⟨rfl, rfl⟩)
          go_ret
          exact ⟨rfl, rfl⟩
      · have e2 : (hh == g) = false := by simpa using hg2
        have e3 : decide (hh = g) = false := by simpa using hg2
        rw [e3]
        clear h0 hg2 e1 e3
        cases d1 <;> cases b1 <;> cases s1 <;>
        · go_enter Tryd.func30, Tryd.ntmps30
          go_wp2_with (go_at_call 35; refine HG.out.mono ?_; rintro e w1 ⟨rfl, rfl⟩)
          go_ret
          exact ⟨rfl, rfl⟩
end
end Go.Proofs.YtkfpnppppmccdaaDoor
namespace Go.Proofs.YtkfpnppppmccdaaDoor
open Go.RowKit
/-- The goroutine of an id, if it is another one. -/
def otherP (M : Md) (k : Nat) (r : Int) : Option Nat := match getM M r with
  | none => none
  | some t => if t = k then none else some t
/-- The number in the register that an instruction names. -/
def regA (x : Go) (i : Ins) : Int := x.th.regs.getD i.a.toNat 0
def SB27 (w w' : World) : Prop := Below w.heap.size w w'
theorem run_eql_nil_ptr {P : Program} (w : World) {tp te : TypeId} (b : Addr) (hp : P.underlying tp = some (.pointer te)) : (binOp .eql tp (.pointer none) (.pointer (some b))).run P w = .ok (.bool false) w := by
  have h : ∀ d : Nat, (Op.equalIn (d + 1) tp (.pointer none) (.pointer (some b))).run P w = .ok false w := fun d => by
    simp [Op.equalIn, run_underlying hp]
  simp only [binOp]
  simp [Op.equal, Op.maxDepth, h 9999]
theorem Tryd.infoGo : ∃ j, Tryd.prog.info? 68 = some j ∧ j.size ≠ 0 := by
  have h : ((Tryd.prog.info? 68).map fun j => decide (j.size ≠ 0)) = some true := by kernel_rfl
  cases hj : Tryd.prog.info? 68 with
  | none => rw [hj] at h; cases h
  | some j => rw [hj] at h; exact ⟨j, rfl, by simpa using h⟩
section
variable {w : World} {m gm : Nat} {F : Option Addr} {fc : Nat} {fs : List Fn} {M : Md} {ps : List Nat} {L : Option Addr} {c : Nat} {Bs : List (Option Addr × Nat)}
theorem MdIs.step {w' : World} (h : MdIs w m gm F fc fs M ps L c Bs) (hb : Below w.heap.size w w') (hm : m ≤ w.heap.size) : MdIs w' m gm F fc fs M ps L c Bs := by
  have hlp := h.lp
  exact ⟨h.head.below hb h.head.lt, h.lp, h.lb, h.row.kept (row := none) ⟨hb.os, hb.tape, hb.output, hb.size, fun k hk _ => hb.block k hk⟩ (by cases hL : ob L <;> simp), fun k hk => (h.mem k hk).below hb (h.mem k hk).lt, fun k hk => ⟨(h.th k hk).regs, ((h.th k hk).row.below hb).more hb.size, (h.th k hk).len, (h.th k hk).cap⟩, h.far, h.nd, h.ng, h.fits, h.stk, ⟨h.prog.1.below (hb.mono hm), h.prog.2⟩, h.low, h.few⟩
theorem GoCells.step {p : Nat} {x : Go} {w' : World} (h : GoCells w p x) (hp : p < w.heap.size) (hb : Below w.heap.size w w') : GoCells w' p x :=
  have e : ∀ (i : Nat) (v : Value), w.cell? ⟨p, i, none⟩ = some v → w'.cell? ⟨p, i, none⟩ = some v := fun i _ hv => (Below.cell (p := ⟨p, i, none⟩) hb hp).trans hv
  ⟨e _ _ h.fn, e _ _ h.pc, fun r hr => e _ _ (h.reg r hr), e _ _ h.done, e _ _ h.blk, e _ _ h.tok, e _ _ h.sus, e _ _ h.beg⟩
theorem gVal_eq (h : MdIs w m gm F fc fs M ps L c Bs) {k t : Nat} (hk : k < M.l.length) (ht : t < M.l.length) (e : ps[k]? = ps[t]?) : k = t := by
  have hl := h.lp
  rw [List.getElem?_eq_getElem (by omega), List.getElem?_eq_getElem (by omega)] at e
  injection e with e
  exact (List.getElem_inj h.nd).1 e
set_option maxRecDepth 100000 in
theorem other_any (h : MdIs w m gm F fc fs M ps L c Bs) (hm : m ≤ w.heap.size) (g : Int) {k p : Nat} (hk : k < M.l.length) (hp : ps[k]? = some p) (i : Ins) (a : Nat) (ha : i.a = a) (ha8 : a < 8) :
    Calls Tryd.prog 50 #[.pointer (some ⟨gm, 0, none⟩), .int .i64 g, .pointer (some ⟨p, 0, none⟩), .agg (insArr i)] w fun e w' => e = .returned (gVal ps (otherP M k (regA (goAt M k) i))) ∧ Below w.heap.size w w' := by
  obtain ⟨p', hp', hpv, hc⟩ := h.go hk
  obtain rfl : p' = p := by rw [hp] at hp'; injection hp' with hp'; exact hp'.symm
  obtain ⟨r, HR⟩ : ∃ r, Hid (r = regA (goAt M k) i) := ⟨_, Lib.hid rfl⟩
  have hr : w.cell? ⟨p', 2 + a, none⟩ = some (.int .i64 r) := by
    rw [HR.out]
    unfold regA
    rw [ha]
    exact hc.reg a ha8
  rw [← HR.out]
  obtain ⟨W, HW⟩ : ∃ W, Hid (W = w.alloc (.cells (insArr i) 64)) := ⟨_, Lib.hid rfl⟩
  have hbW : Below w.heap.size w W := by rw [HW.out]; exact (Below.refl _ w).alloc (Nat.le_refl _) _
  have hB : Blk W w.heap.size 64 (insArr i) := by rw [HW.out]; exact Blk.new _ _ _
  have hpl : p' < w.heap.size := by
    have hlp := h.lp
    have := (h.mem k hk).lt
    rw [List.getElem?_eq_getElem (by omega)] at hp
    injection hp with hp
    omega
  have hrW : W.cell? ⟨p', 2 + a, none⟩ = some (.int .i64 r) := (Below.cell (p := ⟨p', 2 + a, none⟩) hbW hpl).trans hr
  have haW : W.cell? ⟨w.heap.size, 1, none⟩ = some (.int .i64 a) := (hB.cell 1).trans (by unfold insArr; rw [ha]; rfl)
  obtain ⟨b, HBN⟩ : ∃ b, Hid (b = w.heap.size) := ⟨_, Lib.hid rfl⟩
  rw [← HBN.out] at haW hB hbW ⊢
  have HD := Lib.hid (show SB27 W W.drew from (Below.refl _ _).drew)
  have hpW : p' < W.heap.size := Nat.lt_of_lt_of_le hpl (by rw [HW.out, World.size_alloc]; omega)
  have hbW2 : b < W.heap.size := hB.lt
  have F0 : ∀ w', SB27 W w' → w'.cell? ⟨p', 2 + a, none⟩ = some (.int .i64 r) := fun w' h => (Below.cell (p := ⟨p', 2 + a, none⟩) h hpW).trans hrW
  have F1 : ∀ w', SB27 W w' → w'.cell? ⟨b, 1, none⟩ = some (.int .i64 a) := fun w' h => (Below.cell (p := ⟨b, 1, none⟩) h hbW2).trans haW
  have HG := Lib.hid (get_any ((h.step (show Below w.heap.size w W by rw [← HBN.out]; exact hbW) hm).step HD.out (Nat.le_trans hm (by rw [HW.out, World.size_alloc]; omega))) r)
  have HBW := Lib.hid (show Below b w W.drew from hbW.drew)
  unfold insArr at HW ⊢
  have HA := Lib.hid ha
  clear ha
  have qn : ∀ w, (binOp .eql 65 (.pointer none) (.pointer (some ⟨p', 0, none⟩))).run Tryd.prog w = .ok (.bool false) w := fun w => run_eql_nil_ptr w _ Tryd.underlying65
  obtain ⟨jg, hjg, hjs⟩ := Tryd.infoGo
  have qs : ∀ w, (binOp .eql 65 (.pointer (some ⟨p', 0, none⟩)) (.pointer (some ⟨p', 0, none⟩))).run Tryd.prog w = .ok (.bool true) w := fun w => run_eql_ptr_same w _ Tryd.underlying65 hjg
  have hq : Hid (∀ p2, p2 ≠ p' → (∃ cs, Blk W p2 68 cs) → (binOp .eql 65 (.pointer (some ⟨p2, 0, none⟩)) (.pointer (some ⟨p', 0, none⟩))).run Tryd.prog W.drew = .ok (.bool false) W.drew) := Lib.hid (fun p2 hne ⟨cs, hb2⟩ => by
    have hpb : Blk W p' 68 (goArr (M.l[k]) (Bs[k]'(by have := h.lb; omega)).1 (Bs[k]'(by have := h.lb; omega)).2) := by
      have h1 := h.mem k hk
      have h2 : ps[k]'(by have := h.lp; omega) = p' := by
        rw [List.getElem?_eq_getElem (by have := h.lp; omega)] at hp
        injection hp
      rw [h2] at h1
      exact h1.below (show Below w.heap.size w W by rw [← HBN.out]; exact hbW) h1.lt
    exact run_eql_ptr_other W.drew Tryd.underlying65 hjg hjs (fun e => hne (congrArg (·.block) e)) hb2.drew hpb.drew)
  cases hg : getM M r with
  | none =>
    have ho : otherP M k r = none := by unfold otherP; rw [hg]
    rw [ho]
    rw [hg] at HG
    simp only [gVal] at HG ⊢
    clear h hc hr hrW haW hB hbW hbW2 hpW hg ho hp hp' hpv
    go_enter Tryd.func50, Tryd.ntmps50
    go_wp2_with fail
    rw [show w.alloc (.cells #[.int .i64 i.op, .int .i64 i.a, .int .i64 i.b, .int .i64 i.c, .int .i64 i.n] 64) = W from HW.out.symm, ← HBN.out]
    refine region_sch (SB27 W) [([0, 1, 2, 3, 4, 5, 6, 7, 8], 9)] [10] (by kernel_rfl) (by kernel_rfl) (by kernel_rfl) (fun _ _ d _ _ h => by cases d <;> exact h) HD.out ?_
    (try simp only [Act.put, List.setIfInBounds_toArray, List.set_cons_zero, List.set_cons_succ]); refine sch_seg ?_; simp only [pickOps, List.getElem?_toArray, List.getElem?_cons_zero, List.getElem?_cons_succ]; (repeat (first | go_big_quiet_skip | (go_big_quiet_want; first | (go_big_quiet_op; first | go_big_quiet_on | ((first | with_reducible refine ⟨_, fun _ _ => rfl, ?_⟩); go_big_quiet_on)) | (simp (contextual := true) [go_sem, F0, F1]; with_reducible refine ⟨_, fun _ _ => rfl, ?_⟩; go_big_quiet_on)))); refine wpQuiet_nil ?_
    go_wp2_with fail
    refine HG.out.mono ?_
    rintro e w1 ⟨rfl, rfl⟩
    go_wp2_with fail
    refine ⟨SB27 W, HD.out, fun _ h => h, ?_⟩
    (try simp only [Act.put]); refine sch_end ?_; simp only [pickOps, List.getElem?_toArray, List.getElem?_cons_zero, List.getElem?_cons_succ]; (repeat (first | go_big_quiet_skip | (go_big_quiet_want; first | (go_big_quiet_op; first | go_big_quiet_on | ((first | with_reducible refine ⟨_, fun _ _ => rfl, ?_⟩); go_big_quiet_on)) | (simp (contextual := true) [go_sem, F0]; with_reducible refine ⟨_, fun _ _ => rfl, ?_⟩; go_big_quiet_on)))); refine wpQuiet_nil ?_
    clear F0 F1
    go_wp2_with fail
    go_ret
    exact ⟨rfl, HBW.out⟩
  | some t =>
    have htl := (getM_lt hg).1
    obtain ⟨p2, hp2, hpv2, -⟩ := h.go htl
    rw [hg, hpv2] at HG
    have key : (p2 = p' ∧ otherP M k r = none) ∨ (p2 ≠ p' ∧ otherP M k r = some t) := by
      unfold otherP
      rw [hg]
      by_cases e : t = k
      · subst e
        left
        rw [hp] at hp2
        injection hp2 with hp2
        exact ⟨hp2.symm, if_pos rfl⟩
      · right
        refine ⟨fun e2 => e (gVal_eq h htl hk (by rw [hp, hp2, e2])), if_neg e⟩
    rcases key with ⟨rfl, ho⟩ | ⟨hne, ho⟩
    · rw [ho]
      simp only [gVal]
      clear h hc hr hrW haW hB hbW hbW2 hpW hg ho hp hp' hpv hp2 hpv2 hq
      go_enter Tryd.func50, Tryd.ntmps50
      go_wp2_with fail
      rw [show w.alloc (.cells #[.int .i64 i.op, .int .i64 i.a, .int .i64 i.b, .int .i64 i.c, .int .i64 i.n] 64) = W from HW.out.symm, ← HBN.out]
      refine region_sch (SB27 W) [([0, 1, 2, 3, 4, 5, 6, 7, 8], 9)] [10] (by kernel_rfl) (by kernel_rfl) (by kernel_rfl) (fun _ _ d _ _ h => by cases d <;> exact h) HD.out ?_
      (try simp only [Act.put, List.setIfInBounds_toArray, List.set_cons_zero, List.set_cons_succ]); refine sch_seg ?_; simp only [pickOps, List.getElem?_toArray, List.getElem?_cons_zero, List.getElem?_cons_succ]; (repeat (first | go_big_quiet_skip | (go_big_quiet_want; first | (go_big_quiet_op; first | go_big_quiet_on | ((first | with_reducible refine ⟨_, fun _ _ => rfl, ?_⟩); go_big_quiet_on)) | (simp (contextual := true) [go_sem, F0, F1]; with_reducible refine ⟨_, fun _ _ => rfl, ?_⟩; go_big_quiet_on)))); refine wpQuiet_nil ?_
      go_wp2_with fail
      refine HG.out.mono ?_
      rintro e w1 ⟨rfl, rfl⟩
      go_wp2_with fail
      refine ⟨SB27 W, HD.out, fun _ h => h, ?_⟩
      (try simp only [Act.put]); refine sch_end ?_; simp only [pickOps, List.getElem?_toArray, List.getElem?_cons_zero, List.getElem?_cons_succ]; (repeat (first | go_big_quiet_skip | (go_big_quiet_want; first | (go_big_quiet_op; first | go_big_quiet_on | ((first | with_reducible refine ⟨_, fun _ _ => rfl, ?_⟩); go_big_quiet_on)) | (simp (contextual := true) [go_sem, F0]; with_reducible refine ⟨_, fun _ _ => rfl, ?_⟩; go_big_quiet_on)))); refine wpQuiet_nil ?_
      clear F0 F1
      go_wp2_with fail
      go_ret
      exact ⟨rfl, HBW.out⟩
    · rw [ho, hpv2]
      have hb2 : Blk W p2 68 (goArr (M.l[t]) (Bs[t]'(by have := h.lb; omega)).1 (Bs[t]'(by have := h.lb; omega)).2) := by
        have h1 := h.mem t htl
        have h2 : ps[t]'(by have := h.lp; omega) = p2 := by
          rw [List.getElem?_eq_getElem (by have := h.lp; omega)] at hp2
          injection hp2
        rw [h2] at h1
        exact h1.below (show Below w.heap.size w W by rw [← HBN.out]; exact hbW) h1.lt
      have qo := hq.out p2 hne ⟨_, hb2⟩
      clear hb2
      clear h hc hr hrW haW hB hbW hbW2 hpW hg ho hp hp' hpv hp2 hpv2 hq
      go_enter Tryd.func50, Tryd.ntmps50
      go_wp2_with fail
      rw [show w.alloc (.cells #[.int .i64 i.op, .int .i64 i.a, .int .i64 i.b, .int .i64 i.c, .int .i64 i.n] 64) = W from HW.out.symm, ← HBN.out]
      refine region_sch (SB27 W) [([0, 1, 2, 3, 4, 5, 6, 7, 8], 9)] [10] (by kernel_rfl) (by kernel_rfl) (by kernel_rfl) (fun _ _ d _ _ h => by cases d <;> exact h) HD.out ?_
      (try simp only [Act.put, List.setIfInBounds_toArray, List.set_cons_zero, List.set_cons_succ]); refine sch_seg ?_; simp only [pickOps, List.getElem?_toArray, List.getElem?_cons_zero, List.getElem?_cons_succ]; (repeat (first | go_big_quiet_skip | (go_big_quiet_want; first | (go_big_quiet_op; first | go_big_quiet_on | ((first | with_reducible refine ⟨_, fun _ _ => rfl, ?_⟩); go_big_quiet_on)) | (simp (contextual := true) [go_sem, F0, F1]; with_reducible refine ⟨_, fun _ _ => rfl, ?_⟩; go_big_quiet_on)))); refine wpQuiet_nil ?_
      go_wp2_with fail
      refine HG.out.mono ?_
      rintro e w1 ⟨rfl, rfl⟩
      go_wp2_with fail
      refine ⟨SB27 W, HD.out, fun _ h => h, ?_⟩
      (try simp only [Act.put]); refine sch_end ?_; simp only [pickOps, List.getElem?_toArray, List.getElem?_cons_zero, List.getElem?_cons_succ]; (repeat (first | go_big_quiet_skip | (go_big_quiet_want; first | (go_big_quiet_op; first | go_big_quiet_on | ((first | with_reducible refine ⟨_, fun _ _ => rfl, ?_⟩); go_big_quiet_on)) | (simp (contextual := true) [go_sem, F0]; with_reducible refine ⟨_, fun _ _ => rfl, ?_⟩; go_big_quiet_on)))); refine wpQuiet_nil ?_
      clear F0 F1
      go_wp2_with fail
      go_ret
      exact ⟨rfl, HBW.out⟩
end
end Go.Proofs.YtkfpnppppmccdaaDoor
namespace Go.Proofs.YtkfpnppppmccdaaDoor
open Go.RowKit
/-- May it begin its instruction? -/
def beginsP (M : Md) (k : Nat) (i : Ins) : Bool :=
  if M.holder ≠ 0 then false else if (goAt M k).beg = true then false else if i.op = 17 ∨ i.op = 19 then decide (M.owner = 0) else if i.op = 20 then (otherP M k (regA (goAt M k) i)).isSome else false
/-- May it commit its instruction? -/
def commitsP (M : Md) (g : Int) (k : Nat) (i : Ins) : Bool :=
  if M.holder = g then true else if i.op = 17 ∨ i.op = 19 then (goAt M k).beg && decide (M.owner = g) else if i.op = 20 then
    match otherP M k (regA (goAt M k) i) with
    | none => true
    | some t => (goAt M k).beg && ((goAt M t).th.done || !(goAt M t).sus)
  else true
section
variable {w : World} {m gm : Nat} {F : Option Addr} {fc : Nat} {fs : List Fn} {M : Md} {ps : List Nat} {L : Option Addr} {c : Nat} {Bs : List (Option Addr × Nat)}
theorem otherP_lt {k t : Nat} {r : Int} (h : otherP M k r = some t) : t < M.l.length := by
  unfold otherP at h
  cases hg : getM M r with
  | none => rw [hg] at h; cases h
  | some t' =>
    rw [hg] at h
    simp only at h
    split at h
    · cases h
    · injection h with h
      subst h
      exact (getM_lt hg).1
set_option maxHeartbeats 1000000 in
theorem begins_any (h : MdIs w m gm F fc fs M ps L c Bs) (hm : m ≤ w.heap.size) (g : Int) {k p : Nat} (hk : k < M.l.length) (hp : ps[k]? = some p) (i : Ins) (a : Nat) (ha : i.a = a) (ha8 : a < 8) :
    Calls Tryd.prog 33 #[.pointer (some ⟨gm, 0, none⟩), .int .i64 g, .pointer (some ⟨p, 0, none⟩), .agg (insArr i)] w fun e w' => e = .returned (.bool (beginsP M k i)) ∧ Below w.heap.size w w' := by
  have hbW : Below w.heap.size w (w.alloc (.cells (insArr i) 64)) := (Below.refl _ w).alloc (Nat.le_refl _) _
  have HO := Lib.hid (other_any (h.step hbW hm) (Nat.le_trans hm hbW.size) g hk hp i a ha ha8)
  obtain ⟨p', hp', -, hc⟩ := h.go hk
  obtain rfl : p' = p := by rw [hp] at hp'; injection hp' with hp'; exact hp'.symm
  have hpl : p' < w.heap.size := by
    have := (h.mem k hk).lt
    rw [List.getElem?_eq_getElem (by have := h.lp; omega)] at hp
    injection hp with hp
    omega
  obtain ⟨-, -, -, q3, q4⟩ := h.five
  have hgl := h.head.lt
  have hb := hc.beg
  have HBW := Lib.hid hbW
  unfold beginsP
  generalize otherP M k (regA (goAt M k) i) = ot at HO ⊢
  generalize (goAt M k).beg = bg at hb ⊢
  generalize M.holder = hh at q3 ⊢
  generalize M.owner = ow at q4 ⊢
  obtain ⟨op, ia, ib, ic, inn⟩ := i
  clear hbW hc h ha ha8 hp hp' hk
  unfold insArr at HO HBW ⊢
  simp only at HO HBW ⊢
  by_cases h0 : hh ≠ 0
  · have e0 : (hh == 0) = false := by simpa using h0
    rw [if_pos h0]
    have e1 : (hh != 0) = true := by simpa using h0
    clear h0 e0
    go_enter Tryd.func33, Tryd.ntmps33
    go_wp2_with fail
    all_goals
      go_ret
      exact ⟨rfl, HBW.out⟩
  · have e0 : hh = 0 := Classical.byContradiction h0
    rw [if_neg h0]
    subst e0
    clear h0
    cases bg with
    | true =>
      rw [if_pos rfl]
      go_enter Tryd.func33, Tryd.ntmps33
      go_wp2_with fail
      go_ret
      exact ⟨rfl, HBW.out⟩
    | false =>
      rw [if_neg (by simp)]
      by_cases h17 : op = 17
      · subst h17
        rw [if_pos (.inl rfl)]
        go_enter Tryd.func33, Tryd.ntmps33
        go_wp2_with fail
        go_ret
        exact ⟨rfl, HBW.out⟩
      · by_cases h19 : op = 19
        · subst h19
          rw [if_pos (.inr rfl)]
          go_enter Tryd.func33, Tryd.ntmps33
          go_wp2_with fail
          go_ret
          exact ⟨rfl, HBW.out⟩
        · have e17 : (op == 17) = false := by simpa using h17
          have e19 : (op == 19) = false := by simpa using h19
          rw [if_neg (by omega)]
          by_cases h20 : op = 20
          · subst h20
            rw [if_pos rfl]
            cases ot with
            | none =>
              simp only [gVal] at HO
              go_enter Tryd.func33, Tryd.ntmps33
              go_wp2_with (go_at_call 50; refine HO.out.mono ?_; rintro e w1 ⟨rfl, hb1⟩)
              go_ret
              exact ⟨rfl, HBW.out.trans (hb1.mono HBW.out.size)⟩
            | some t =>
              simp only [gVal, pptr] at HO
              go_enter Tryd.func33, Tryd.ntmps33
              go_wp2_with (go_at_call 50; refine HO.out.mono ?_; rintro e w1 ⟨rfl, hb1⟩)
              go_ret
              exact ⟨rfl, HBW.out.trans (hb1.mono HBW.out.size)⟩
          · have e20 : (op == 20) = false := by simpa using h20
            rw [if_neg h20]
            clear h17 h19 h20
            go_enter Tryd.func33, Tryd.ntmps33
            go_wp2_with fail
            go_ret
            exact ⟨rfl, HBW.out⟩
set_option maxHeartbeats 2000000 in
theorem commits_any (h : MdIs w m gm F fc fs M ps L c Bs) (hm : m ≤ w.heap.size) (g : Int) {k p : Nat} (hk : k < M.l.length) (hp : ps[k]? = some p) (i : Ins) (a : Nat) (ha : i.a = a) (ha8 : a < 8) :
    Calls Tryd.prog 31 #[.pointer (some ⟨gm, 0, none⟩), .int .i64 g, .pointer (some ⟨p, 0, none⟩), .agg (insArr i)] w fun e w' => e = .returned (.bool (commitsP M g k i)) ∧ Below w.heap.size w w' := by
  have hbW : Below w.heap.size w (w.alloc (.cells (insArr i) 64)) := (Below.refl _ w).alloc (Nat.le_refl _) _
  have HO := Lib.hid (other_any (h.step hbW hm) (Nat.le_trans hm hbW.size) g hk hp i a ha ha8)
  obtain ⟨p', hp', -, hc⟩ := h.go hk
  obtain rfl : p' = p := by rw [hp] at hp'; injection hp' with hp'; exact hp'.symm
  have hpl : p' < w.heap.size := by
    have := (h.mem k hk).lt
    rw [List.getElem?_eq_getElem (by have := h.lp; omega)] at hp
    injection hp with hp
    omega
  obtain ⟨-, -, -, q3, q4⟩ := h.five
  have hgl := h.head.lt
  have hb := hc.beg
  have HBW := Lib.hid hbW
  have HM := Lib.hid h
  have HLT := Lib.hid (fun (t : Nat) (e : otherP M k (regA (goAt M k) i) = some t) => otherP_lt e)
  unfold commitsP
  generalize otherP M k (regA (goAt M k) i) = ot at HO HLT ⊢
  generalize (goAt M k).beg = bg at hb ⊢
  generalize M.holder = hh at q3 ⊢
  generalize M.owner = ow at q4 ⊢
  obtain ⟨op, ia, ib, ic, inn⟩ := i
  clear hbW hc h ha ha8 hp hp' hk
  unfold insArr at HO HBW ⊢
  simp only at HO HBW ⊢
  by_cases h0 : hh = g
  · have e0 : (hh == g) = true := by simpa using h0
    rw [if_pos h0]
    clear h0
    go_enter Tryd.func31, Tryd.ntmps31
    go_wp2_with fail
    go_ret
    exact ⟨rfl, HBW.out⟩
  · have e0 : (hh == g) = false := by simpa using h0
    rw [if_neg h0]
    clear h0
    by_cases h17 : op = 17 ∨ op = 19
    · rw [if_pos h17]
      cases bg with
      | false =>
        rcases h17 with rfl | rfl <;>
        · go_enter Tryd.func31, Tryd.ntmps31
          go_wp2_with fail
          go_ret
          exact ⟨rfl, HBW.out⟩
      | true =>
        by_cases hw : ow = g
        · have e1 : (ow == g) = true := by simpa using hw
          have e2 : decide (ow = g) = true := by simpa using hw
          rw [e2]
          clear hw e2
          rcases h17 with rfl | rfl <;>
          · go_enter Tryd.func31, Tryd.ntmps31
            go_wp2_with fail
            go_ret
            exact ⟨rfl, HBW.out⟩
        · have e1 : (ow == g) = false := by simpa using hw
          have e2 : decide (ow = g) = false := by simpa using hw
          rw [e2]
          clear hw e2
          rcases h17 with rfl | rfl <;>
          · go_enter Tryd.func31, Tryd.ntmps31
            go_wp2_with fail
            go_ret
            exact ⟨rfl, HBW.out⟩
    · have e17 : (op == 17) = false := by simp; omega
      have e19 : (op == 19) = false := by simp; omega
      rw [if_neg h17]
      clear h17
      by_cases h20 : op = 20
      · subst h20
        rw [if_pos rfl]
        cases ot with
        | none =>
          simp only [gVal] at HO
          go_enter Tryd.func31, Tryd.ntmps31
          go_wp2_with (go_at_call 50; refine HO.out.mono ?_; rintro e w1 ⟨rfl, hb1⟩)
          go_ret
          exact ⟨rfl, HBW.out.trans (hb1.mono HBW.out.size)⟩
        | some t =>
          have htl := HLT.out t rfl
          obtain ⟨p2, hp2, hpv2, hc2⟩ := HM.out.go htl
          rw [hpv2] at HO
          have hp2l : p2 < w.heap.size := by
            have := (HM.out.mem t htl).lt
            rw [List.getElem?_eq_getElem (by have := HM.out.lp; omega)] at hp2
            injection hp2 with hp2
            omega
          have HC2 := Lib.hid (hc2.step hp2l HBW.out)
          have HP2 := Lib.hid (show p2 < (w.alloc (.cells #[.int .i64 20, .int .i64 ia, .int .i64 ib, .int .i64 ic, .int .i64 inn] 64)).heap.size by rw [World.size_alloc]; omega)
          simp only
          generalize goAt M t = y at HC2 ⊢
          obtain ⟨yth, yb, yt, ys, yg⟩ := y
          obtain ⟨yf, yp, yr, yst, yd⟩ := yth
          clear hpv2 hc2 hp2 htl HM
          cases bg <;> cases yd <;> cases ys <;>
          · go_enter Tryd.func31, Tryd.ntmps31
            go_wp2_with (go_at_call 50; refine HO.out.mono ?_; rintro e w1 ⟨rfl, hb1⟩; have c1 := ((HC2.out.step HP2.out hb1)).done; have c2 := ((HC2.out.step HP2.out hb1)).sus; have c3 := (Below.cell (p := ⟨p', 15, none⟩) hb1 (by rw [World.size_alloc]; show p' < _; omega)).trans ((Below.cell (p := ⟨p', 15, none⟩) HBW.out hpl).trans hb))
            go_ret
            exact ⟨rfl, HBW.out.trans (hb1.mono HBW.out.size)⟩
      · have e20 : (op == 20) = false := by simpa using h20
        rw [if_neg h20]
        clear h20
        go_enter Tryd.func31, Tryd.ntmps31
        go_wp2_with fail
        go_ret
        exact ⟨rfl, HBW.out⟩
end
end Go.Proofs.YtkfpnppppmccdaaDoor
namespace Go.Proofs.YtkfpnppppmccdaaDoor
open Go.RowKit
/-- Nothing but blocks of L, and new ones, was written. -/
structure Mv (L : List Nat) (w w' : World) : Prop where
  os : w'.os = w.os
  tape : w'.tape = w.tape
  output : w'.output = w.output
  size : w.heap.size ≤ w'.heap.size
  block : ∀ k, k < w.heap.size → k ∉ L → w'.heap[k]? = w.heap[k]?
theorem Mv.refl (L : List Nat) (w : World) : Mv L w w := ⟨rfl, rfl, rfl, Nat.le_refl _, fun _ _ _ => rfl⟩
theorem Mv.trans {L : List Nat} {a b c : World} (h : Mv L a b) (k : Mv L b c) : Mv L a c :=
  ⟨k.os.trans h.os, k.tape.trans h.tape, k.output.trans h.output, Nat.le_trans h.size k.size, fun i hi hn => (k.block i (Nat.lt_of_lt_of_le hi h.size) hn).trans (h.block i hi hn)⟩
theorem Mv.mono {L L' : List Nat} {w w' : World} (h : Mv L w w') (hl : ∀ k ∈ L, k < w.heap.size → k ∈ L') : Mv L' w w' :=
  ⟨h.os, h.tape, h.output, h.size, fun k hk hn => h.block k hk (fun hL => hn (hl k hL hk))⟩
theorem Mv.of_below {L : List Nat} {w w' : World} {B : Nat} (h : Below B w w') (hB : w.heap.size ≤ B) : Mv L w w' := ⟨h.os, h.tape, h.output, h.size, fun k hk _ => h.block k (by omega)⟩
theorem Mv.low {L : List Nat} {w w' : World} {B : Nat} (h : Mv L w w') (hB : B ≤ w.heap.size) (hl : ∀ k ∈ L, B ≤ k) : Below B w w' :=
  ⟨h.os, h.tape, h.output, h.size, fun k hk => h.block k (by omega) (fun hL => by have := hl k hL; omega)⟩
theorem Mv.blk {L : List Nat} {w w' : World} {g : Nat} {t : TypeId} {cs : Array Value} (h : Mv L w w') (hb : Blk w g t cs) (hg : g ∉ L) : Blk w' g t cs := (h.block g hb.lt hg).trans hb
theorem Mv.set {L : List Nat} {w w' : World} (h : Mv L w w') (p : Addr) (v : Value) (hp : p.block ∈ L) : Mv L w (w'.setCell p v) :=
  h.trans ⟨rfl, rfl, rfl, by simp [World.setCell], fun k hk hn => Below.heap_setCell w' p v k (fun e => hn (e ▸ hp))⟩
theorem Mv.setRow {L : List Nat} {w w' : World} (h : Mv L w w') (g : Nat) (cs : Array Value) (hg : g ∈ L) : Mv L w (w'.setRow g cs) :=
  h.trans ⟨rfl, rfl, rfl, by rw [setRow_size]; exact Nat.le_refl _, fun k hk hn => heap_setRow w' g cs k (fun e => hn (e ▸ hg))⟩
theorem own_mv {L : List Nat} {w w' : World} {base size n c : Nat} {e : TypeId} {A : Option Addr} {xs : List Value} (h : Own w base e size A n c xs) (hm : Mv L w w') (hl : ∀ b, ob A = some b → b ∉ L) : Own w' base e size A n c xs := by
  refine ⟨h.1, ?_⟩
  rcases h.2 with h2 | ⟨g, cap, cur, hv, hb, hg, rest⟩
  · exact .inl h2
  · have hA : ob A = some g := by
      injection hv with hv
      rw [hv]
      rfl
    exact .inr ⟨g, cap, cur, hv, hb, hm.blk hg (hl g hA), rest⟩
theorem row_mv {L : List Nat} {w w' : World} {A : Option Addr} {xs : List Value} (h : Row w w.heap.size A xs) (hm : Mv L w w') (hl : xs ≠ [] → ∀ b, ob A = some b → b ∉ L) : Row w' w'.heap.size A xs := by
  by_cases hx : xs = []
  · exact .inl hx
  have hl := hl hx
  rcases h with h | ⟨b, off, hA, hb, hc⟩
  · exact .inl h
  · refine .inr ⟨b, off, hA, Nat.lt_of_lt_of_le hb hm.size, fun j u hu => ?_⟩
    have h1 : w'.heap[b]? = w.heap[b]? := hm.block b hb (hl b (by rw [hA]; rfl))
    rw [← hc j u hu]
    unfold World.cell?
    rw [h1]
theorem thok_mv {L : List Nat} {w w' : World} {t : Th} {B : Option Addr} {d : Nat} (h : ThOk w w.heap.size t B d) (hm : Mv L w w') (hl : t.stack ≠ [] → ∀ b, ob B = some b → b ∉ L) : ThOk w' w'.heap.size t B d :=
  ⟨h.regs, row_mv h.row hm (fun hx => hl (fun e => hx (by rw [e]; rfl))), h.len, h.cap⟩
section
variable {w w' : World} {m gm : Nat} {F : Option Addr} {fc : Nat} {fs : List Fn} {M : Md} {ps : List Nat} {L : Option Addr} {c : Nat} {Bs : List (Option Addr × Nat)}
theorem prog_mv {X : List Nat} (h : FnsOk w m F fs) (hm : Mv X w w') (hs : m ≤ w.heap.size) (hX : ∀ b ∈ X, m ≤ b) : FnsOk w' m F fs := h.below (hm.low hs hX)
/-- The holder and the owner are others. -/
theorem MdIs.setHead (h : MdIs w m gm F fc fs M ps L c Bs) (hs : m ≤ w.heap.size) (ho ow : Int) (hm : Mv [gm] w w') (hb : Blk w' gm 71 #[.slice F fs.length fc, .int .i64 M.gs, .slice L ps.length c, .int .i64 ho, .int .i64 ow]) :
    MdIs w' m gm F fc fs { M with holder := ho, owner := ow } ps L c Bs := by
  have hlp := h.lp
  refine ⟨hb, h.lp, h.lb, own_mv h.row hm (fun b hb' => by have := (h.ng.2 b hb').1; simpa using this), fun k hk => hm.blk (h.mem k hk) ?_, fun k hk => thok_mv (h.th k hk) hm (fun hx b hb' => by have := (h.far k hk hx b hb').1; simpa using this), h.far, h.nd, h.ng, h.fits, h.stk, ⟨prog_mv h.prog.1 hm hs (by intro b hb'; rw [List.mem_singleton] at hb'; rw [hb']; exact h.low.1), h.prog.2⟩, h.low, h.few⟩
  rw [List.mem_singleton]
  intro e
  exact h.ng.1 (e ▸ List.getElem_mem _)
/-- One goroutine is another. -/
theorem MdIs.setGo (h : MdIs w m gm F fc fs M ps L c Bs) (hs : m ≤ w.heap.size) {k p : Nat} (hk : k < M.l.length) (hp : ps[k]? = some p) (x' : Go) (B' : Option Addr) (d' : Nat) (hm : Mv [p] w w') (hb : Blk w' p 68 (goArr x' B' d'))
    (hth : ThOk w' w'.heap.size x'.th B' d') (hfar : x'.th.stack ≠ [] → ∀ b, ob B' = some b → b ≠ gm ∧ b ∉ ps ∧ ob L ≠ some b) (hfit : fitsT fs x'.th = true) (hst : x'.th.stack.length ≤ 40) :
    MdIs w' m gm F fc fs { M with l := M.l.set k x' } ps L c (Bs.set k (B', d')) := by
  have hlp := h.lp
  have hlb := h.lb
  have hpk : ps[k]'(by omega) = p := by
    rw [List.getElem?_eq_getElem (by omega)] at hp
    injection hp
  have hpm : p ∈ ps := by rw [← hpk]; exact List.getElem_mem _
  refine ⟨hm.blk h.head (by rw [List.mem_singleton]; intro e; exact h.ng.1 (e ▸ hpm)), by simpa using h.lp, by simpa using h.lb, own_mv h.row hm (fun b hb' => by
      have := (h.ng.2 b hb').2
      rw [List.mem_singleton]
      intro e
      exact this (e ▸ hpm)), fun j hj => ?_, fun j hj => ?_, fun j hj => ?_, h.nd, h.ng, fun j hj => ?_, fun j hj => ?_, ⟨prog_mv h.prog.1 hm hs (by intro b hb'; rw [List.mem_singleton] at hb'; rw [hb']; exact h.low.2 p hpm), h.prog.2⟩, h.low, by simpa using h.few⟩
  all_goals
    have hj' : j < M.l.length := by simpa using hj
    by_cases e : j = k
  · subst e
    simp only [List.getElem_set_self, hpk]
    exact hb
  · simp only [List.getElem_set_ne (Ne.symm e)]
    refine hm.blk (h.mem j hj') ?_
    rw [List.mem_singleton]
    intro e2
    exact e ((List.getElem_inj h.nd).1 (e2.trans hpk.symm))
  · subst e
    simp only [List.getElem_set_self]
    exact hth
  · simp only [List.getElem_set_ne (Ne.symm e)]
    refine thok_mv (h.th j hj') hm (fun hx b hb' => ?_)
    rw [List.mem_singleton]
    intro e2
    exact (h.far j hj' hx b hb').2.1 (e2 ▸ hpm)
  · subst e
    simp only [List.getElem_set_self]
    exact hfar
  · simp only [List.getElem_set_ne (Ne.symm e)]
    exact h.far j hj'
  · subst e
    simp only [List.getElem_set_self]
    exact hfit
  · simp only [List.getElem_set_ne (Ne.symm e)]
    exact h.fits j hj'
  · subst e
    simp only [List.getElem_set_self]
    exact hst
  · simp only [List.getElem_set_ne (Ne.symm e)]
    exact h.stk j hj'
end
end Go.Proofs.YtkfpnppppmccdaaDoor

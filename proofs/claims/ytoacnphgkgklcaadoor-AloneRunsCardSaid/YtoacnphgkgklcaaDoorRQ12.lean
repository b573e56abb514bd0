/-
  Chapter 12: what holds in memory during the reference's run. No walk in sight.
-/
import Derived.Test.YtoacnphgkgklcaaDoorBad12
import Derived.Test.YtoacnphgkgklcaaDoorRAns12
import Derived.Test.YtoacnphgkgklcaaDoorRSt11
namespace Go.Proofs.YtoacnphgkgklcaaDoor
open Go.RowKit
/-- What lies in memory while a step of the reference is under way. -/
structure Q12 (w wz : World) (len : Nat) (A : Option Addr) (c g gw gI n0 : Nat) (d : Wd) (tok : Bool) (E : Option Addr) (ce : Nat) (B : Option Addr) (cb : Nat) (ins : Array Value) : Prop where
  res : Blk wz g 52 (resArr d E ce B cb)
  wld : Blk wz gw 76 (rwArr { d with token := tok })
  ins : Blk wz gI 32 ins
  prg : Blk wz w.heap.size 24 #[.slice A len c]
  old : ∃ old, Blk wz (w.heap.size + 1) 52 old ∧ old.size = 15
  own : Own wz (gw + 1) 2 1 E d.emits.length ce (ints d.emits)
  bel : Below w.heap.size w wz
  big : n0 ≤ wz.heap.size
  lt1 : w.heap.size + 1 < g
  lt2 : g < gw
  lt3 : gw < gI
  lt4 : gI < n0
  ltE : ∀ x, ob E = some x → x < n0
section
variable {w wz wy : World} {len : Nat} {A : Option Addr} {c g gw gI n0 : Nat} {d : Wd} {tok : Bool} {E : Option Addr} {ce : Nat} {B : Option Addr} {cb : Nat} {ins : Array Value}
theorem Q12.step (h : Q12 w wz len A c g gw gI n0 d tok E ce B cb ins) (hb : Below wz.heap.size wz wy) : Q12 w wy len A c g gw gI n0 d tok E ce B cb ins := by
  obtain ⟨h1, h2, h3, h4, ⟨old, ho, hs⟩, h6, h7, h8, l1, l2, l3, l4, l5⟩ := h
  exact ⟨h1.below hb h1.lt, h2.below hb h2.lt, h3.below hb h3.lt, h4.below hb h4.lt, ⟨old, ho.below hb ho.lt, hs⟩, own_below h6 hb, h7.trans (hb.mono h7.size), Nat.le_trans h8 hb.size, l1, l2, l3, l4, l5⟩
theorem Q12.drew_ (h : Q12 w wz len A c g gw gI n0 d tok E ce B cb ins) : Q12 w wz.drew len A c g gw gI n0 d tok E ce B cb ins := h.step (Below.refl _ _).drew
theorem Q12.off {tok' : Bool} (h : Q12 w wz len A c g gw gI n0 d tok E ce B cb ins) (ho : Off1 wz wy gw) (hb : Blk wy gw 76 (rwArr { d with token := tok' })) (hbel : Below w.heap.size wz wy) : Q12 w wy len A c g gw gI n0 d tok' E ce B cb ins := by
  obtain ⟨h1, _, h3, h4, ⟨old, h5, hs⟩, h6, h7, h8, l1, l2, l3, l4, l5⟩ := h
  exact ⟨ho.blk h1 (by omega), hb, ho.blk h3 (by omega), ho.blk h4 (by omega), ⟨old, ho.blk h5 (by omega), hs⟩, ho.own h6 (h6.ne_lt (by omega)), h7.trans hbel, Nat.le_trans h8 ho.1, l1, l2, l3, l4, l5⟩
theorem Q12.row (h : Q12 w wz len A c g gw gI n0 d tok E ce B cb ins) {gZ : Nat} (hz : n0 ≤ gZ) (cs : Array Value) : Q12 w (wz.setRow gZ cs) len A c g gw gI n0 d tok E ce B cb ins := by
  obtain ⟨h1, h2, h3, h4, ⟨old, h5, hs⟩, h6, h7, h8, l1, l2, l3, l4, l5⟩ := h
  refine ⟨h1.farRow (by omega) _, h2.farRow (by omega) _, h3.farRow (by omega) _, h4.farRow (by omega) _, ⟨old, h5.farRow (by omega) _, hs⟩, h6.kept (grown_setRow _ _ _) ?_, below_setRow h7 (by omega) h7.size _, by rw [setRow_size]; exact h8, l1, l2, l3, l4, l5⟩
  cases hE : ob E with
  | none => exact .inl rfl
  | some x =>
    right
    intro h
    injection h with h
    have := l5 x hE
    omega
theorem Q12.s10 (h : Q12 w wz len A c g gw gI n0 d tok E ce B cb ins) (h8 : d.th.regs.length = 8) : S10 w.heap.size g gI (.slice A len c) (thArr d.th B cb) ins wz := by
  refine ⟨(h.prg.cell 0).trans (by simp), fun j v hv => by rw [Nat.zero_add, h.ins.cell]; exact hv, fun j v hv => ?_⟩
  have hj : j < 12 := by
    have := (Array.getElem?_eq_some_iff.1 hv).1
    rw [thArr_size B cb h8] at this
    exact this
  rw [h.res.cell, resArr_th E ce B cb h8 j hj]
  exact hv
end
/-- A thread written into the result's block. -/
theorem splice_res {d : Wd} (E : Option Addr) (ce : Nat) (B B' : Option Addr) (cb cb' : Nat) (u : Th) (h : d.th.regs.length = 8) (hu : u.regs.length = 8) : splice (resArr d E ce B cb) 2 (thArr u B' cb') = resArr { d with th := u } E ce B' cb' := by
  have h1 := thArr_size B cb h
  have h2 := thArr_size B' cb' hu
  unfold splice resArr
  rw [h2]
  congr 1
  simp [h1]
theorem resArr_set1 {d : Wd} (E : Option Addr) (ce : Nat) (B : Option Addr) (cb : Nat) (x : Int) : (resArr d E ce B cb).setIfInBounds 1 (.int .i64 x) = resArr { d with steps := x } E ce B cb := by
  unfold resArr
  rw [List.setIfInBounds_toArray]
  rfl
theorem resArr_set0 {d : Wd} (E : Option Addr) (ce : Nat) (B : Option Addr) (cb : Nat) (es : List Int) (E' : Option Addr) (ce' : Nat) : (resArr d E ce B cb).setIfInBounds 0 (.slice E' es.length ce') = resArr { d with emits := es } E' ce' B cb := by
  unfold resArr
  rw [List.setIfInBounds_toArray]
  rfl
theorem resArr_stuck {d : Wd} (E : Option Addr) (ce : Nat) (B : Option Addr) (cb : Nat) (h : d.th.regs.length = 8) (x : Bool) : (resArr d E ce B cb).setIfInBounds 14 (.bool x) = resArr { d with stuck := x } E ce B cb := by
  have hs := thArr_size B cb h
  unfold resArr
  rw [List.setIfInBounds_toArray]
  congr 1
  rw [List.set_append_right _ _ (by simp [hs])]
  simp [hs]
/-- What holds ahead of each round of the reference's run. -/
structure RRInv (w wr : World) (fs : List Fn) (A : Option Addr) (c g gw k : Nat) (d : Wd) (E : Option Addr) (ce : Nat) (B : Option Addr) (cb : Nat) : Prop where
  blk : Blk wr g 52 (resArr d E ce B cb)
  wld : Blk wr gw 76 (rwArr d)
  own : Own wr (gw + 1) 2 1 E d.emits.length ce (ints d.emits)
  ok : ThOk wr wr.heap.size d.th B cb
  fits : fitsT fs d.th = true
  neB : d.th.stack = [] ∨ ∀ x, ob B = some x → gw < x ∧ ob E ≠ some x
  steps : d.steps = k
  small : d.emits.length ≤ k
  prg : Blk wr w.heap.size 24 #[.slice A fs.length c]
  res : ∃ old, Blk wr (w.heap.size + 1) 52 old ∧ old.size = 15
  bel : Below w.heap.size w wr
  lt : w.heap.size + 1 < g
  lt2 : g < gw
theorem RRInv.cap {w wr : World} {fs : List Fn} {A : Option Addr} {c g gw k : Nat} {d : Wd} {E : Option Addr} {ce : Nat} {B : Option Addr} {cb : Nat} (h : RRInv w wr fs A c g gw k d E ce B cb) : d.emits.length ≤ ce ∧ ce ≤ maxLen := by
  rcases h.own.2 with ⟨hv, h0⟩ | ⟨_, cap, _, hv, _, _, hnc, hcm, _⟩
  · injection hv with _ _ h3
    rw [h3, h0]
    exact ⟨Nat.le_refl _, Nat.zero_le _⟩
  · injection hv with _ _ h3
    rw [h3]
    exact ⟨hnc, hcm⟩
/-- The run's end: the result is written into the block of the named result. -/
theorem RRInv.fin {w wr : World} {fs : List Fn} {A : Option Addr} {c g gw k : Nat} {d : Wd} {E : Option Addr} {ce : Nat} {B : Option Addr} {cb : Nat} (h : RRInv w wr fs A c g gw k d E ce B cb) : ResOut w d 0 (.returned (.tuple #[.agg (resArr d E ce B cb), .int .i64 0])) (wr.setRow (w.heap.size + 1) (resArr d E ce B cb)) :=
  ⟨E, ce, B, cb, rfl, (own_setRow h.own (g := w.heap.size + 1) (by have := h.lt; have := h.lt2; omega) _).rowN, h.cap.1, h.cap.2, thok_far h.ok (h.neB.imp id fun hn x hx => by have := (hn x hx).1; have := h.lt; have := h.lt2; omega) _, below_setRow h.bel (by omega) h.bel.size _⟩
theorem RRInv.step {w wr wy : World} {fs : List Fn} {A : Option Addr} {c g gw k : Nat} {d : Wd} {E : Option Addr} {ce : Nat} {B : Option Addr} {cb : Nat} (h : RRInv w wr fs A c g gw k d E ce B cb) (hb : Below wr.heap.size wr wy) : RRInv w wy fs A c g gw k d E ce B cb := by
  obtain ⟨h1, h2, h3, h4, h5, h6, h7, h8, h9, ⟨old, ho, hs⟩, h11, l1, l2⟩ := h
  exact ⟨h1.below hb h1.lt, h2.below hb h2.lt, own_below h3 hb, h4.step hb, h5, h6, h7, h8, h9.below hb h9.lt, ⟨old, ho.below hb ho.lt, hs⟩, h11.trans (hb.mono h11.size), l1, l2⟩
/-- Ahead of a step: the instruction lies in a new block. -/
theorem RRInv.q12 {w wr : World} {fs : List Fn} {A : Option Addr} {c g gw k : Nat} {d : Wd} {E : Option Addr} {ce : Nat} {B : Option Addr} {cb : Nat} (h : RRInv w wr fs A c g gw k d E ce B cb) (ins : Array Value) :
    Q12 w (wr.alloc (.cells ins 32)) fs.length A c g gw wr.heap.size (wr.heap.size + 1) d d.token E ce B cb ins := by
  obtain ⟨h1, h2, h3, h4, h5, h6, h7, h8, h9, ⟨old, ho, hs⟩, h11, l1, l2⟩ := h
  exact ⟨h1.alloc _, h2.alloc _, Blk.new wr _ _, h9.alloc _, ⟨old, ho.alloc _, hs⟩, h3.alloc _, h11.alloc h11.size _, by simp, l1, l2, h2.lt, Nat.lt_succ_self _, fun x hx => Nat.lt_succ_of_lt (h3.lt x hx).2⟩
/-- What holds behind a step, ahead of what it does beside. -/
structure RCut (w wr wc : World) (len : Nat) (A : Option Addr) (c g gw gI n0 : Nat) (d : Wd) (tok : Bool) (E : Option Addr) (ce : Nat) (B : Option Addr) (cb : Nat) (ins : Array Value) (u : Th) (gT : Nat) (B4 : Option Addr) (d4 : Nat) : Prop where
  q : Q12 w wc len A c g gw gI n0 d tok E ce B cb ins
  th : Blk wc gT 28 (thArr u B4 d4)
  ok : ThOk wc wc.heap.size u B4 d4
  fr : ∀ x, ob B4 = some x → n0 ≤ x
  nT : n0 ≤ gT
theorem RCut.of {w wr wc : World} {len : Nat} {A : Option Addr} {c g gw gI n0 : Nat} {d : Wd} {tok : Bool} {E : Option Addr} {ce : Nat} {B : Option Addr} {cb : Nat} {ins : Array Value} {u : Th} {gZ : Nat} {B4 : Option Addr} {d4 : Nat} {old : Array Value}
    (q : Q12 w wc len A c g gw gI n0 d tok E ce B cb ins) (hz : Blk wc gZ 28 old) (hzn : n0 ≤ gZ) (hok : ThOk wc wc.heap.size u B4 d4) (hfr : ∀ x, ob B4 = some x → n0 ≤ x) (hne : u.stack = [] ∨ ∀ x, ob B4 = some x → x ≠ gZ) : RCut w wr (wc.setRow gZ (thArr u B4 d4)) len A c g gw gI n0 d tok E ce B cb ins u gZ B4 d4 :=
  ⟨q.row hzn _, hz.setRow _, thok_far hok hne _, hfr, hzn⟩
/-- What holds behind what a step does beside. -/
structure RDone (w wr wz : World) (fs : List Fn) (A : Option Addr) (c g gw k n0 : Nat) (d : Wd) (E : Option Addr) (ce : Nat) (B : Option Addr) (cb : Nat) : Prop where
  blk : Blk wz g 52 (resArr d E ce B cb)
  wld : Blk wz gw 76 (rwArr d)
  own : Own wz (gw + 1) 2 1 E d.emits.length ce (ints d.emits)
  steps : d.steps = (k : Int) + 1
  small : d.emits.length ≤ k + 1
  ok : ThOk wz wz.heap.size d.th B cb
  fr : d.th.stack = [] ∨ ∀ x, ob B = some x → n0 ≤ x ∧ ob E ≠ some x
  prg : Blk wz w.heap.size 24 #[.slice A fs.length c]
  res : ∃ old, Blk wz (w.heap.size + 1) 52 old ∧ old.size = 15
  bel : Below w.heap.size w wz
theorem RDone.inv {w wr wz : World} {fs : List Fn} {A : Option Addr} {c g gw k n0 : Nat} {d : Wd} {E : Option Addr} {ce : Nat} {B : Option Addr} {cb : Nat} (h : RDone w wr wz fs A c g gw k n0 d E ce B cb) (hf : fitsT fs d.th = true) (l1 : w.heap.size + 1 < g) (l2 : g < gw) (l3 : gw < n0) : RRInv w wz fs A c g gw (k + 1) d E ce B cb :=
  ⟨h.blk, h.wld, h.own, h.ok, hf, h.fr.imp id fun hn x hx => ⟨by have := (hn x hx).1; omega, (hn x hx).2⟩, by rw [h.steps]; omega, h.small, h.prg, h.res, h.bel, l1, l2⟩
/-- The world with the new thread and one step more. -/
structure RStp (w wz : World) (len : Nat) (A : Option Addr) (c g gw gI n0 : Nat) (d : Wd) (E : Option Addr) (ce : Nat) (B : Option Addr) (cb : Nat) (ins : Array Value) : Prop where
  q : Q12 w wz len A c g gw gI n0 d d.token E ce B cb ins
  ok : ThOk wz wz.heap.size d.th B cb
  fr : ∀ x, ob B = some x → n0 ≤ x
theorem RCut.put {w wr wc : World} {len : Nat} {A : Option Addr} {c g gw gI n0 : Nat} {d : Wd} {tok : Bool} {E : Option Addr} {ce : Nat} {B : Option Addr} {cb : Nat} {ins : Array Value} {u : Th} {gT : Nat} {B4 : Option Addr} {d4 : Nat}
    (h : RCut w wr wc len A c g gw gI n0 d tok E ce B cb ins u gT B4 d4) (h8 : d.th.regs.length = 8) : RStp w ((wc.setRow g (splice (resArr d E ce B cb) 2 (thArr u B4 d4))).setCell ⟨g, 1, none⟩ (.int .i64 (d.steps + 1))) len A c g gw gI n0 { d with token := tok, th := u, steps := d.steps + 1 } E ce B4 d4 ins := by
  obtain ⟨⟨h1, h2, h3, h4, ⟨old, h5, hs⟩, h6, h7, h8', l1, l2, l3, l4, l5⟩, ht, hk, hf, hT⟩ := h
  rw [splice_res E ce B B4 cb d4 u h8 hk.regs]
  have e1 := (h1.setRow (resArr { d with th := u } E ce B4 d4)).set_ 1 (.int .i64 (d.steps + 1))
  rw [resArr_set1] at e1
  have hneE : ob E = none ∨ ob E ≠ some g := h6.ne_lt (by omega)
  refine ⟨⟨e1, (h2.farRow (by omega) _).far (p := ⟨g, 1, none⟩) (by show gw ≠ g; omega) _, (h3.farRow (by omega) _).far (p := ⟨g, 1, none⟩) (by show gI ≠ g; omega) _, (h4.farRow (by omega) _).far (p := ⟨g, 1, none⟩) (by show w.heap.size ≠ g; omega) _, ⟨old, (h5.farRow (by omega) _).far (p := ⟨g, 1, none⟩) (by show w.heap.size + 1 ≠ g; omega) _, hs⟩, (h6.kept (grown_setRow _ _ _) hneE).setCell ⟨g, 1, none⟩ _ hneE, (below_setRow h7 (by omega) h7.size _).setCell (p := ⟨g, 1, none⟩) (by show w.heap.size ≤ g; omega) _, ?_, l1, l2, l3, l4, l5⟩, ?_, hf⟩
  · have := (grown_set (wc.setRow g (resArr { d with th := u } E ce B4 d4)) ⟨g, 1, none⟩ (.int .i64 (d.steps + 1))).size
    rw [setRow_size] at this
    omega
  · refine thok_off hk ?_ (.inr fun x hx _ => ?_)
    · have := (grown_set (wc.setRow g (resArr { d with th := u } E ce B4 d4)) ⟨g, 1, none⟩ (.int .i64 (d.steps + 1))).size
      rw [setRow_size] at this
      exact this
    · have := hf x hx
      exact (Below.heap_setCell _ ⟨g, 1, none⟩ _ x (by show x ≠ g; omega)).trans (heap_setRow _ _ _ x (by omega))
/-- Cells of the two blocks are written: all else lies on. -/
theorem RStp.done {w wz wy : World} {fs : List Fn} {A : Option Addr} {c g gw gI n0 k : Nat} {d d' : Wd} {E E' : Option Addr} {ce ce' : Nat} {B : Option Addr} {cb : Nat} {ins : Array Value} (wr : World)
    (h : RStp w wz fs.length A c g gw gI n0 d E ce B cb ins) (hth : d'.th = d.th) (hs : d'.steps = (k : Int) + 1) (hsm : d'.emits.length ≤ k + 1) (hr : Blk wy g 52 (resArr d' E' ce' B cb)) (hw : Blk wy gw 76 (rwArr d')) (ho : Own wy (gw + 1) 2 1 E' d'.emits.length ce' (ints d'.emits))
    (hfE : ob E' = ob E ∨ ∃ x, ob E' = some x ∧ wz.heap.size ≤ x) (hkeep : ∀ x, x < wz.heap.size → x ≠ g → x ≠ gw → some x ≠ ob E → wy.heap[x]? = wz.heap[x]?) (hsz : wz.heap.size ≤ wy.heap.size) (hb : Below w.heap.size wz wy) : RDone w wr wy fs A c g gw k n0 d' E' ce' B cb := by
  obtain ⟨⟨h1, h2, h3, h4, ⟨old, h5, hs5⟩, h6, h7, h8', l1, l2, l3, l4, l5⟩, hk, hf⟩ := h
  have neE : ∀ x, x ≤ gw → some x ≠ ob E := fun x hx h => by
    have := (h6.lt x h.symm).1
    omega
  have neE2 : ∀ x, n0 ≤ x → some x ≠ ob E := fun x hx h => by
    have := l5 x h.symm
    omega
  have hlt := thok_lt hk
  refine ⟨hr, hw, ho, hs, hsm, ?_, ?_, ?_, ?_, ?_⟩
  · rw [hth]
    refine thok_off hk hsz (.inr fun x hx hxl => hkeep x hxl ?_ ?_ (neE2 x (hf x hx)))
    · have := hf x hx; omega
    · have := hf x hx; omega
  · rw [hth]
    refine hlt.imp id fun hl x hx => ⟨hf x hx, fun hE' => ?_⟩
    rcases hfE with h | ⟨y, hy, hyl⟩
    · rw [h] at hE'
      exact neE2 x (hf x hx) hE'.symm
    · rw [hy] at hE'
      injection hE' with hE'
      have := hl x hx
      omega
  · exact (hkeep _ h4.lt (by omega) (by omega) (neE _ (by omega))).trans h4
  · exact ⟨old, (hkeep _ h5.lt (by omega) (by omega) (neE _ (by omega))).trans h5, hs5⟩
  · exact h7.trans hb
end Go.Proofs.YtoacnphgkgklcaaDoor

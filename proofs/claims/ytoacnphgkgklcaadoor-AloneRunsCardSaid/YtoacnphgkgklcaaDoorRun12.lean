/-
  Chapter 12: a run of one goroutine: contract of alone.Run (under way). Conditions: the program lies in memory; the table isa.rows.
-/
import Derived.Test.YtoacnphgkgklcaaDoorDone12
import Derived.Test.YtoacnphgkgklcaaDoorStay11
import Derived.Test.YtoacnphgkgklcaaDoorSchT
namespace Go.Proofs.YtoacnphgkgklcaaDoor
open Go.RowKit
section
variable {P : Program}
theorem run_loadVar_cells (w : World) (g off : Nat) (ty : TypeId) (cs : Array Value) (d : TypeDesc) (hs : ∀ j v, cs[j]? = some v → w.cell? ⟨g, off + j, none⟩ = some v)
    (hu : P.underlying ty = some d) (hd : (match d with | .struct _ | .array _ _ => true | _ => false) = true) (hi : (P.info? ty).map (·.size) = some cs.size) :
    (loadVar ty ⟨g, off, none⟩).run P w = .ok (.agg cs) w := by
  have hl : (loadCells ⟨g, off, none⟩ cs.toList.length).run P w = .ok cs.toList.toArray w :=
    run_loadCells_list (P := P) w ⟨g, off, none⟩ cs.toList (fun j v hv => by
      rw [Addr.add_lit]
      exact hs j v (by simpa using hv))
  cases hq : P.info? ty with
  | none => simp [hq] at hi
  | some i =>
    have hsz : i.size = cs.size := by simpa [hq] using hi
    have hagg : (isAgg ty).run P w = .ok true w := by
      unfold isAgg
      rw [Sem.run_bind, run_underlying hu w]
      cases d <;> simp_all
    simp only [Array.length_toList, Array.toArray_toList] at hl
    simp [loadVar, Sem.run_bind, hagg, sizeOf, typeInfo, hq, hsz, hl]
theorem quiet_load_at {ops : Array Oper} {C : World → Prop} {Q : Act → Prop} {rest : List Oper} {o : Oper} {a : Act} (hw : Region.wanted o (yielded ops a.tmps) = true) (ty : TypeId) (x : Operand) (ho : o.op = .load ty x)
    (p : Addr) (hx : a.eval x = .pointer (some p)) (cs : Array Value) (hl : ∀ w, C w → (loadVar ty p).run P w = .ok (.agg cs) w) (h : wpQuiet P ops C Q rest (a.put o.dst (.agg cs))) : wpQuiet P ops C Q (o :: rest) a := by
  unfold wpQuiet
  rw [if_pos hw]
  refine ⟨.agg cs, fun w hC => ?_, h⟩
  unfold Oper.quietAt execOp
  simp only [ho, hx, Instr.loadAt, Instr.sureAddr, Sem.run_bind, Sem.run_pure, Result.andThen_ok, hl w hC]
  exact ⟨rfl, rfl⟩
end
/-- What is read ahead of a step, and lies as it is till the step is done. -/
def S10 (gP g gI : Nat) (pv : Value) (X ins : Array Value) (w' : World) : Prop := w'.cell? ⟨gP, 0, none⟩ = some pv ∧ (∀ j v, ins[j]? = some v → w'.cell? ⟨gI, 0 + j, none⟩ = some v) ∧ ∀ j v, X[j]? = some v → w'.cell? ⟨g, 2 + j, none⟩ = some v
theorem s10_of {w' : World} {gP g gI : Nat} {tP tI tW : TypeId} {pv : Value} {ins : Array Value} {d : Wd} {E : Option Addr} {ce : Nat} {B : Option Addr} {cb : Nat} (hP : Blk w' gP tP #[pv]) (hI : Blk w' gI tI ins) (hW : Blk w' g tW (wdArr d E ce B cb)) (h8 : d.th.regs.length = 8) : S10 gP g gI pv (thArr d.th B cb) ins w' := by
  refine ⟨(hP.cell 0).trans (by simp), fun j v hv => by rw [Nat.zero_add, hI.cell]; exact hv, fun j v hv => ?_⟩
  have hj : j < 12 := by
    have := (Array.getElem?_eq_some_iff.1 hv).1
    rw [thArr_size B cb h8] at this
    exact this
  rw [hW.cell, wdArr_th E ce B cb h8 j hj]
  exact hv
theorem Tryd.infoIns5 (x0 x1 x2 x3 x4 : Value) : (Tryd.prog.info? 32).map (·.size) = some (#[x0, x1, x2, x3, x4] : Array Value).size := Tryd.infoInsS
/-- A thread written into the world's block. -/
theorem splice_th {d : Wd} (E : Option Addr) (ce : Nat) (B B' : Option Addr) (cb cb' : Nat) (u : Th) (h : d.th.regs.length = 8) (hu : u.regs.length = 8) : splice (wdArr d E ce B cb) 2 (thArr u B' cb') = wdArr { d with th := u } E ce B' cb' := by
  have h1 := thArr_size B cb h
  have h2 := thArr_size B' cb' hu
  unfold splice wdArr
  rw [h2]
  congr 1
  simp [h1]
/-- A thread lies on where another block is written. -/
theorem thok_off {w w' : World} {t : Th} {B : Option Addr} {d : Nat} (h : ThOk w w.heap.size t B d) (hs : w.heap.size ≤ w'.heap.size) (hk : t.stack = [] ∨ ∀ x, ob B = some x → x < w.heap.size → w'.heap[x]? = w.heap[x]?) : ThOk w' w'.heap.size t B d := by
  refine ⟨h.regs, ?_, h.len, h.cap⟩
  rcases hk with h0 | hk
  · exact .inl (by rw [h0]; rfl)
  rcases h.row with h0 | ⟨b, off, e, hb, hc⟩
  · exact .inl h0
  · refine .inr ⟨b, off, e, Nat.lt_of_lt_of_le hb hs, fun j v hv => ?_⟩
    rw [← hc j v hv]
    unfold World.cell?
    rw [hk b (by rw [e]; rfl) hb]
theorem thok_far {w : World} {t : Th} {B : Option Addr} {d r : Nat} (h : ThOk w w.heap.size t B d) (hne : t.stack = [] ∨ ∀ x, ob B = some x → x ≠ r) (cs : Array Value) : ThOk (w.setRow r cs) (w.setRow r cs).heap.size t B d :=
  thok_off h (by rw [setRow_size]; exact Nat.le_refl _) (hne.imp id fun hn x hx _ => heap_setRow w r cs x (hn x hx))
theorem thok_lt {w : World} {t : Th} {B : Option Addr} {d : Nat} (h : ThOk w w.heap.size t B d) : t.stack = [] ∨ ∀ x, ob B = some x → x < w.heap.size := by
  rcases h.row with h0 | ⟨b, off, e, hb, _⟩
  · left
    cases hs : t.stack with
    | nil => rfl
    | cons y ys => rw [hs] at h0; simp [frVals] at h0
  · right
    intro x hx
    rw [e] at hx
    injection hx with hx
    rw [← hx]
    exact hb
theorem ThOk.drew_ {w : World} {t : Th} {B : Option Addr} {d : Nat} (h : ThOk w w.heap.size t B d) : ThOk w.drew w.drew.heap.size t B d := ⟨h.regs, h.row, h.len, h.cap⟩
theorem step_small12 (fs : List Fn) (t : Th) (ans : Int) (h : t.stack.length ≤ 40) (hf : fitsT fs t = true) : (stepT fs t ans).1.stack.length ≤ 40 := by
  have h2 := fits_step ans hf
  cases hd : (stepT fs t ans).1.done with
  | false => have := stack_le h2 hd; omega
  | true =>
    cases hd0 : t.done with
    | true => unfold stepT; rw [if_pos hd0]; exact h
    | false =>
      have hsl := stack_le hf hd0
      unfold stepT at hd ⊢
      rw [hd0] at hd ⊢
      simp only [Bool.false_eq_true, if_false] at hd ⊢
      generalize insAt fs t.fn t.pc = i at *
      unfold stepI at *
      have hmv : ∀ u, moveT i { t with regs := regs1 i t ans, pc := t.pc + 1 } = some u → u.done = false := by
        intro u hu
        unfold moveT at hu
        split at hu
        · injection hu with hu; rw [← hu]; split <;> exact hd0
        split at hu
        · injection hu with hu; rw [← hu]; exact hd0
        split at hu
        · split at hu
          · cases hu
          · injection hu with hu; rw [← hu]; exact hd0
        split at hu
        · split at hu
          · cases hu
          · injection hu with hu; rw [← hu]; exact hd0
        split at hu
        · cases hu
        · injection hu with hu; rw [← hu]; exact hd0
      split at hd
      · decide
      · rename_i u hm
        rw [hmv u hm] at hd
        cases hd
/-- What holds ahead of each round of the run. -/
structure RunInv (w wr : World) (fs : List Fn) (A : Option Addr) (c g k : Nat) (d : Wd) (E : Option Addr) (ce : Nat) (B : Option Addr) (cb : Nat) : Prop where
  blk : Blk wr g 71 (wdArr d E ce B cb)
  own : Own wr g 2 1 E d.emits.length ce (ints d.emits)
  ok : ThOk wr wr.heap.size d.th B cb
  fits : fitsT fs d.th = true
  neE : ob E = none ∨ ob E ≠ some g
  neB : d.th.stack = [] ∨ ∀ x, ob B = some x → g < x ∧ ob E ≠ some x
  steps : d.steps = k
  small : d.emits.length ≤ k
  stack : d.th.stack.length ≤ 40
  prg : Blk wr w.heap.size 24 #[.slice A fs.length c]
  res : ∃ old, Blk wr (w.heap.size + 1) 46 old ∧ old.size = 15
  bel : Below w.heap.size w wr
  lt : w.heap.size + 1 < g
/-- One step of one goroutine's world. -/
def stepA (fs : List Fn) (d : Wd) : Wd :=
  let i := insAt fs d.th.fn d.th.pc
  let x := ansA d i.op (regOf d.th i.a)
  let r := stepT fs d.th x.1
  doneA { d with token := x.2, th := r.1 } i.op r.2.1
/-- So many steps, or till it is done or stuck. -/
def runA (fs : List Fn) : Nat → Wd → Wd
  | 0, d => d
  | n + 1, d => if d.th.done = true ∨ d.stuck = true then d else runA fs n (stepA fs d)
theorem doneA_th (d : Wd) (op n : Int) : (doneA d op n).th = d.th := by
  unfold doneA
  simp only
  split
  · rfl
  split
  · rfl
  split
  · rfl
  split
  · split <;> rfl
  · rfl
theorem doneA_steps (d : Wd) (op n : Int) : (doneA d op n).steps = d.steps + 1 := by
  unfold doneA
  simp only
  split
  · rfl
  split
  · rfl
  split
  · rfl
  split
  · split <;> rfl
  · rfl
theorem doneA_emits (d : Wd) (op n : Int) : (doneA d op n).emits.length ≤ d.emits.length + 1 := by
  unfold doneA
  simp only
  split
  · simp
  split
  · simp
  split
  · simp
  split
  · split <;> simp
  · simp
def wd0 : Wd := ⟨[], 0, ⟨0, 0, [0, 0, 0, 0, 0, 0, 0, 0], [], false⟩, false, false, false⟩
/-- The cells of a result: the first fifteen of the world's. -/
def resArr (d : Wd) (E : Option Addr) (ce : Nat) (B : Option Addr) (cb : Nat) : Array Value := ([Value.slice E d.emits.length ce, .int .i64 d.steps] ++ (thArr d.th B cb).toList ++ [Value.bool d.stuck]).toArray
section
variable {d : Wd} (E : Option Addr) (ce : Nat) (B : Option Addr) (cb : Nat) (h : d.th.regs.length = 8)
theorem wd_res : wdArr d E ce B cb = ((resArr d E ce B cb).toList ++ [Value.bool d.stopped, Value.bool d.token]).toArray := by
  unfold wdArr resArr
  simp
include h
theorem resArr_size : (resArr d E ce B cb).size = 15 := by
  have := thArr_size B cb h
  unfold resArr
  simp [this]
omit h in
theorem resArr_sub (j : Nat) (hj : j < (resArr d E ce B cb).size) : (wdArr d E ce B cb)[0 + j]? = (resArr d E ce B cb)[j]? := by
  rw [wd_res, Nat.zero_add, List.getElem?_toArray, List.getElem?_append_left (by simpa using hj)]
  simp
omit h in
theorem resArr_one : (resArr d E ce B cb).all (·.oneCell') = true := by
  have h1 := thArr_one d.th B cb
  rw [Array.all_eq_true_iff_forall_mem] at h1 ⊢
  intro x hx
  unfold resArr at hx
  simp only [List.mem_toArray, List.mem_append, List.mem_cons, List.not_mem_nil, or_false] at hx
  rcases hx with ((rfl | rfl) | hx) | rfl
  · rfl
  · rfl
  · exact h1 x (by simpa using hx)
  · rfl
end
theorem Tryd.infoRes : (Tryd.prog.info? 46).map (·.size) = some 15 := by kernel_rfl
def ResOut (w : World) (d : Wd) (f : Int) (e : Ending) (w' : World) : Prop :=
  ∃ E ce B cb, e = .returned (.tuple #[.agg (resArr d E ce B cb), .int .i64 f]) ∧ Row w' w'.heap.size E (ints d.emits) ∧ d.emits.length ≤ ce ∧ ce ≤ maxLen ∧ ThOk w' w'.heap.size d.th B cb ∧ Below w.heap.size w w'
set_option maxHeartbeats 8000000 in
set_option maxRecDepth 100000 in
theorem run_loop (A : Option Addr) (c : Nat) (fs : List Fn) (n : Nat) (w : World) (hT : Tab w) (hm : fs.length ≤ maxLen) (hf : FnsOk w w.heap.size A fs) (hrun : runB fs = true) (hn : n ≤ 65536) :
    Calls Tryd.prog 23 #[.agg #[.slice A fs.length c], .int .i64 n] w (ResOut w (runA fs n wd0) 0) := by
  have HTA := Lib.hid hT
  have HF := Lib.hid hf
  have HM := Lib.hid hm
  have HRUN := Lib.hid hrun
  have HCH := Lib.hid (show (checkP fs).2.2 = 0 from of_decide_eq_true hrun)
  have hW : ∃ W : World, Hid (W = (w.alloc (.cells #[.slice A fs.length c] 24)).alloc (.cells #[.slice none 0 0, .int .i64 0, .int .i64 0, .int .i64 0, .int .i64 0, .int .i64 0, .int .i64 0, .int .i64 0, .int .i64 0, .int .i64 0, .int .i64 0, .int .i64 0, .slice none 0 0, .bool false, .bool false] 46)) := ⟨_, rfl⟩
  obtain ⟨W, HW⟩ := hW
  have HB0 := Lib.hid (show Below w.heap.size w W by rw [HW.out]; exact below2 w _ _)
  have HBP := Lib.hid (show Blk W w.heap.size 24 #[.slice A fs.length c] by rw [HW.out]; exact (Blk.new w _ _).alloc _)
  have HBR := Lib.hid (show Blk W (w.heap.size + 1) 46 #[.slice none 0 0, .int .i64 0, .int .i64 0, .int .i64 0, .int .i64 0, .int .i64 0, .int .i64 0, .int .i64 0, .int .i64 0, .int .i64 0, .int .i64 0, .int .i64 0, .slice none 0 0, .bool false, .bool false] by rw [HW.out]; exact heap_alloc2_new w _ _)
  clear hT hf hm hrun
  go_enter Tryd.func23, Tryd.ntmps23
  go_wp2_with fail
  try go_step3
  go_wp2_with fail
  rw [← HW.out]
  refine (checkP_any A c fs W (HTA.out.step HB0.out) HM.out (HF.out.step HB0.out)).mono ?_
  rintro e w1 ⟨rfl, hb1⟩
  have HB1 := Lib.hid (HB0.out.trans (hb1.mono HB0.out.size))
  have HBP1 := Lib.hid (HBP.out.below hb1 HBP.out.lt)
  have HBR1 := Lib.hid (HBR.out.below hb1 HBR.out.lt)
  unfold tri
  generalize checkP fs = r at *
  obtain ⟨r1, r2, r3⟩ := r
  have hr3 := HCH.out
  simp only at hr3
  subst hr3
  have hn1 : decide ((n : Int) < 0) = false := by simp
  have hn2 : decide ((65536 : Int) < n) = false := by simp; omega
  clear hb1
  go_wp2_with fail
  refine (vmNew_any 0 0 w1).mono ?_
  rintro e w2 ⟨rfl, hb2⟩
  have HB2 := Lib.hid (HB1.out.trans (hb2.mono HB1.out.size))
  have HBP2 := Lib.hid (HBP1.out.below hb2 HBP1.out.lt)
  have HBR2 := Lib.hid (HBR1.out.below hb2 HBR1.out.lt)
  rw [show thArr ⟨0, 0, [0, 0, 0, 0, 0, 0, 0, 0], [], false⟩ none 0 = #[.int .i64 0, .int .i64 0, .int .i64 0, .int .i64 0, .int .i64 0, .int .i64 0, .int .i64 0, .int .i64 0, .int .i64 0, .int .i64 0, .slice none 0 0, .bool false] from rfl]
  clear hb2
  go_wp2_with fail
  go_step3
  go_wp2_with fail
  have hg : ∃ g : Nat, Hid (g = w2.heap.size) := ⟨_, rfl⟩
  obtain ⟨g, HG⟩ := hg
  rw [← HG.out]
  go_loopw [39] (fun vi wr => ∃ (k : Nat) (d : Wd) (E : Option Addr) (ce : Nat) (B : Option Addr) (cb : Nat), k ≤ n ∧ vi = .int .i64 k ∧ Hid (runA fs (n - k) d = runA fs n wd0) ∧ Hid (RunInv w wr fs A c g k d E ce B cb)) (fun vi _ => n - (intOf vi).toNat)
  case atStart =>
    refine ⟨0, wd0, none, 0, none, 0, Nat.zero_le _, rfl, rfl, ?_⟩
    have hz : w.heap.size + 1 < w2.heap.size := HBR2.out.lt
    have hpos := run_fn HRUN.out
    have hcode := (fn_ok (hpos.2.2 0 hpos.1)).1
    refine ⟨?_, Own.nil _ _ _ _, ⟨rfl, Row.nil, Nat.le_refl _, Nat.zero_le _⟩, fitsT_of HRUN.out rfl (placeB_of (k := 0) (m := 0) hpos.1 hcode) (Nat.zero_le _) rfl, .inl rfl, .inl rfl, rfl, Nat.le_refl _, Nat.zero_le _, HBP2.out.alloc _, ⟨_, HBR2.out.alloc _, rfl⟩, HB2.out.alloc HB2.out.size _, by rw [HG.out]; exact hz⟩
    rw [HG.out]
    exact Blk.new w2 _ _
  case round =>
    obtain ⟨k, d, E, ce, B, cb, hk, rfl, HRA, HIV⟩ := hrel
    have h8 := HIV.out.ok.regs
    have q13 := (HIV.out.blk.cell 13).trans ((wdArr_th E ce B cb h8 11 (by omega)).trans (thArr_11 B cb h8))
    have q14 := (HIV.out.blk.cell 14).trans (wdArr_end E ce B cb h8 0)
    simp only [List.getElem?_cons_zero] at q14
    by_cases hlt : k < n
    · cases hdn : d.th.done with
      | true =>
        have HEND := Lib.hid (show runA fs (n - k) d = d by cases h : n - k with
          | zero => rfl
          | succ j => unfold runA; rw [if_pos (.inl hdn)])
        rw [hdn] at q13
        clear hdn
        have HRES := Lib.hid HIV.out.res
        obtain ⟨old, hold, hosz⟩ := HRES.out
        have HOLD := Lib.hid hold
        have HOSZ := Lib.hid hosz
        have HSZR := Lib.hid (show (Tryd.prog.info? 46).map (·.size) = some (resArr d E ce B cb).size by rw [resArr_size E ce B cb h8]; exact Tryd.infoRes)
        have H8 := Lib.hid h8
        have hcap : d.emits.length ≤ ce ∧ ce ≤ maxLen := by
          rcases HIV.out.own.2 with ⟨hv, h0⟩ | ⟨_, cap, _, hv, _, _, hnc, hcm, _⟩
          · injection hv with _ _ h3
            rw [h3, h0]
            exact ⟨Nat.le_refl _, Nat.zero_le _⟩
          · injection hv with _ _ h3
            rw [h3]
            exact ⟨hnc, hcm⟩
        have HCAP := Lib.hid hcap
        clear hold hosz h8 hcap
        go_wp2_with (first | (refine wpList_load_subW (by rfl) 46 _ rfl g 0 rfl 71 (wdArr d E ce B cb) (resArr d E ce B cb) _ HIV.out.blk (resArr_sub E ce B cb) Tryd.underlying46 rfl HSZR.out ?_) | (refine wpList_store_row rfl 46 _ _ rfl (w.heap.size + 1) (resArr d E ce B cb) rfl rfl 46 _ HOLD.out HSZR.out (by rw [resArr_size E ce B cb H8.out, HOSZ.out]) (resArr_one E ce B cb) ?_))
        rw [Exit.noGoto_ret]
        refine bodyPost_ret (results_cell2 Tryd.results23 _ _ (w.heap.size + 1) 46 (resArr d E ce B cb) (0, 0) _ rfl (HOLD.out.setRow _) Tryd.underlying46 rfl HSZR.out) rfl ⟨E, ce, B, cb, ?_, ?_, ?_, ?_, ?_, ?_⟩
        · rw [← HRA.out, HEND.out]; rfl
        · rw [← HRA.out, HEND.out]; exact (own_setRow HIV.out.own (g := w.heap.size + 1) HIV.out.lt _).rowN
        · rw [← HRA.out, HEND.out]; exact HCAP.out.1
        · exact HCAP.out.2
        · rw [← HRA.out, HEND.out]; exact thok_far HIV.out.ok (HIV.out.neB.imp id fun hn x hx => by have := (hn x hx).1; have := HIV.out.lt; omega) _
        · exact below_setRow HIV.out.bel (by omega) HIV.out.bel.size _
      | false =>
        cases hsk : d.stuck with
        | true =>
          have HEND := Lib.hid (show runA fs (n - k) d = d by cases h : n - k with
            | zero => rfl
            | succ j => unfold runA; rw [if_pos (.inr hsk)])
          rw [hdn] at q13
          rw [hsk] at q14
          clear hdn hsk
          have HRES := Lib.hid HIV.out.res
          obtain ⟨old, hold, hosz⟩ := HRES.out
          have HOLD := Lib.hid hold
          have HOSZ := Lib.hid hosz
          have HSZR := Lib.hid (show (Tryd.prog.info? 46).map (·.size) = some (resArr d E ce B cb).size by rw [resArr_size E ce B cb h8]; exact Tryd.infoRes)
          have H8 := Lib.hid h8
          have hcap : d.emits.length ≤ ce ∧ ce ≤ maxLen := by
            rcases HIV.out.own.2 with ⟨hv, h0⟩ | ⟨_, cap, _, hv, _, _, hnc, hcm, _⟩
            · injection hv with _ _ h3
              rw [h3, h0]
              exact ⟨Nat.le_refl _, Nat.zero_le _⟩
            · injection hv with _ _ h3
              rw [h3]
              exact ⟨hnc, hcm⟩
          have HCAP := Lib.hid hcap
          clear hold hosz h8 hcap
          go_wp2_with (first | (refine wpList_load_subW (by rfl) 46 _ rfl g 0 rfl 71 (wdArr d E ce B cb) (resArr d E ce B cb) _ HIV.out.blk (resArr_sub E ce B cb) Tryd.underlying46 rfl HSZR.out ?_) | (refine wpList_store_row rfl 46 _ _ rfl (w.heap.size + 1) (resArr d E ce B cb) rfl rfl 46 _ HOLD.out HSZR.out (by rw [resArr_size E ce B cb H8.out, HOSZ.out]) (resArr_one E ce B cb) ?_))
          rw [Exit.noGoto_ret]
          refine bodyPost_ret (results_cell2 Tryd.results23 _ _ (w.heap.size + 1) 46 (resArr d E ce B cb) (0, 0) _ rfl (HOLD.out.setRow _) Tryd.underlying46 rfl HSZR.out) rfl ⟨E, ce, B, cb, ?_, ?_, ?_, ?_, ?_, ?_⟩
          · rw [← HRA.out, HEND.out]; rfl
          · rw [← HRA.out, HEND.out]; exact (own_setRow HIV.out.own (g := w.heap.size + 1) HIV.out.lt _).rowN
          · rw [← HRA.out, HEND.out]; exact HCAP.out.1
          · exact HCAP.out.2
          · rw [← HRA.out, HEND.out]; exact thok_far HIV.out.ok (HIV.out.neB.imp id fun hn x hx => by have := (hn x hx).1; have := HIV.out.lt; omega) _
          · exact below_setRow HIV.out.bel (by omega) HIV.out.bel.size _
        | false =>
          rw [hdn] at q13
          rw [hsk] at q14
          obtain ⟨_, fk, m, ek, em, hfk, hfm, ei⟩ := fits_place HIV.out.fits hdn
          have HEI := Lib.hid ei
          have HINR := Lib.hid (run_ins HRUN.out hfk hfm)
          have c0 := (HIV.out.blk.cell 2).trans ((wdArr_th E ce B cb h8 0 (by omega)).trans (thArr_0 B cb))
          have c1 := (HIV.out.blk.cell 3).trans ((wdArr_th E ce B cb h8 1 (by omega)).trans (thArr_1 B cb))
          rw [ek] at c0
          rw [em] at c1
          obtain ⟨b, off, b2, off2, an, ac, rfl, hbl, hbl2, hma, hna, hc0, hok, i0, i1, i2, i3, i4⟩ := (HF.out.below HIV.out.bel).fetch hfk hfm
          have HMS := Lib.hid (show fs.length ≤ maxLen from HM.out)
          have hml : fs.length ≤ 9223372036854775807 := by have := HM.out; unfold maxLen at this; omega
          unfold maxLen at hna
          have hwz : w.heap.size ≤ wr.heap.size := HIV.out.bel.size
          have kp := HIV.out.prg.cell 0
          simp only [List.getElem?_toArray, List.getElem?_cons_zero] at kp
          have hgl : g < wr.heap.size := HIV.out.blk.lt
          have hwl := HIV.out.lt
          generalize hins : fs[fk].code[m] = ins at *
          obtain ⟨op, ia, ib, ic, inn⟩ := ins
          obtain ⟨a, hia⟩ := Int.eq_ofNat_of_zero_le HINR.out.a0
          simp only at hia i0 i1 i2 i3 i4
          subst hia
          have S0 : ∀ w', Below wr.heap.size wr w' → w'.cell? ⟨w.heap.size, 0, none⟩ = some (.slice (some ⟨b, off, none⟩) fs.length c) := fun w' h => (h.cell (p := ⟨w.heap.size, 0, none⟩) (by show w.heap.size < _; omega)).trans kp
          have S1 : ∀ w', Below wr.heap.size wr w' → w'.cell? ⟨g, 2, none⟩ = some (.int .i64 fk) := fun w' h => (h.cell (p := ⟨g, 2, none⟩) hgl).trans c0
          have S2 : ∀ w', Below wr.heap.size wr w' → w'.cell? ⟨g, 3, none⟩ = some (.int .i64 m) := fun w' h => (h.cell (p := ⟨g, 3, none⟩) hgl).trans c1
          have S3 : ∀ w', Below wr.heap.size wr w' → w'.cell? ⟨b, off + fk * 2, none⟩ = some (.slice (some ⟨b2, off2, none⟩) an ac) := fun w' h => (h.cell (p := ⟨b, off + fk * 2, none⟩) (by show b < _; omega)).trans hc0
          have S4 : ∀ w', Below wr.heap.size wr w' → w'.cell? ⟨b2, off2 + m * 5, none⟩ = some (.int .i64 op) := fun w' h => (h.cell (p := ⟨b2, off2 + m * 5, none⟩) (by show b2 < _; omega)).trans i0
          have S5 : ∀ w', Below wr.heap.size wr w' → w'.cell? ⟨b2, off2 + m * 5 + 1, none⟩ = some (.int .i64 (a : Int)) := fun w' h => (h.cell (p := ⟨b2, off2 + m * 5 + 1, none⟩) (by show b2 < _; omega)).trans i1
          have S6 : ∀ w', Below wr.heap.size wr w' → w'.cell? ⟨b2, off2 + m * 5 + 2, none⟩ = some (.int .i64 ib) := fun w' h => (h.cell (p := ⟨b2, off2 + m * 5 + 2, none⟩) (by show b2 < _; omega)).trans i2
          have S7 : ∀ w', Below wr.heap.size wr w' → w'.cell? ⟨b2, off2 + m * 5 + 3, none⟩ = some (.int .i64 ic) := fun w' h => (h.cell (p := ⟨b2, off2 + m * 5 + 3, none⟩) (by show b2 < _; omega)).trans i3
          have S8 : ∀ w', Below wr.heap.size wr w' → w'.cell? ⟨b2, off2 + m * 5 + 4, none⟩ = some (.int .i64 inn) := fun w' h => (h.cell (p := ⟨b2, off2 + m * 5 + 4, none⟩) (by show b2 < _; omega)).trans i4
          clear ei ek em hc0 hok i0 i1 i2 i3 i4 c0 c1 kp hins hbl hbl2
          go_wp2_with fail
          refine region_sch (fun w' => Below wr.heap.size wr w') [([0, 1, 2, 3, 4, 5, 6, 7, 8, 9, 10, 11, 12, 13, 14, 15, 16, 17, 18], 19), ([], 20)] [] (by kernel_rfl) (by kernel_rfl) (by kernel_rfl) (fun _ _ d _ _ h => by cases d <;> exact h) (Below.refl _ _).drew ?_
          (try simp only [Act.put, List.setIfInBounds_toArray, List.set_cons_zero, List.set_cons_succ]); refine sch_seg ?_; simp only [pickOps, List.getElem?_toArray, List.getElem?_cons_zero, List.getElem?_cons_succ]; (repeat (first | go_big_quiet_skip | (go_big_quiet_want; first | (go_big_quiet_op; first | go_big_quiet_on | ((first | with_reducible refine ⟨_, fun _ _ => rfl, ?_⟩); go_big_quiet_on)) | (simp (contextual := true) [go_sem, S0, S1, S2, S3, S4, S5, S6, S7, S8]; with_reducible refine ⟨_, fun _ _ => rfl, ?_⟩; go_big_quiet_on)))); refine wpQuiet_nil ?_
          clear S0 S1 S2 S3 S4 S5 S6 S7 S8
          go_wp2_with fail
          refine ⟨fun w' => Below wr.heap.size wr w', ((Below.refl _ _).alloc (Nat.le_refl _) _).drew, fun _ h => h, ?_⟩
          (try simp only [Act.put, List.setIfInBounds_toArray, List.set_cons_zero, List.set_cons_succ]); refine sch_seg ?_; simp only [pickOps, List.getElem?_toArray, List.getElem?_cons_zero, List.getElem?_cons_succ]; (repeat (first | go_big_quiet_skip | (go_big_quiet_want; first | (go_big_quiet_op; first | go_big_quiet_on | ((first | with_reducible refine ⟨_, fun _ _ => rfl, ?_⟩); go_big_quiet_on)) | (simp (contextual := true) [go_sem, HIV]; with_reducible refine ⟨_, fun _ _ => rfl, ?_⟩; go_big_quiet_on)))); refine wpQuiet_nil ?_
          go_wp2_with fail
          refine ⟨fun w' => Below wr.heap.size wr w', ((Below.refl _ _).alloc (Nat.le_refl _) _).drew, fun _ h => h, ?_⟩
          refine sch_end ?_
          simp only [pickOps]
          refine wpQuiet_nil ?_
          have hwa : ∃ wa : World, Hid (wa = (wr.alloc (.cells #[.int .i64 op, .int .i64 (a : Int), .int .i64 ib, .int .i64 ic, .int .i64 inn] 32)).drew) := ⟨_, rfl⟩
          obtain ⟨wa, HWA⟩ := hwa
          have HBa := Lib.hid (show Below wr.heap.size wr wa by rw [HWA.out]; exact ((Below.refl _ _).alloc (Nat.le_refl _) _).drew)
          have HIa := Lib.hid (show Blk wa wr.heap.size 32 #[.int .i64 op, .int .i64 (a : Int), .int .i64 ib, .int .i64 ic, .int .i64 inn] by rw [HWA.out]; exact (Blk.new wr _ _).drew)
          have hgi : ∃ gI : Nat, Hid (gI = wr.heap.size) := ⟨_, rfl⟩
          obtain ⟨gI, HGI⟩ := hgi
          rw [← HWA.out, ← HGI.out]
          rw [← HGI.out] at HIa
          have ha8 : a < 8 := by have := HINR.out.a8; simp only at this; omega
          have HSZT := Lib.hid (show (Tryd.prog.info? 28).map (·.size) = some (thArr d.th B cb).size by rw [thArr_size B cb h8]; exact Tryd.infoTh)
          have HH8 := Lib.hid h8
          have F0 : ∀ w', S10 w.heap.size g gI (.slice (some ⟨b, off, none⟩) fs.length c) (thArr d.th B cb) #[.int .i64 op, .int .i64 (a : Int), .int .i64 ib, .int .i64 ic, .int .i64 inn] w' → w'.cell? ⟨w.heap.size, 0, none⟩ = some (.slice (some ⟨b, off, none⟩) fs.length c) := fun _ h => h.1
          have LI : ∀ w', S10 w.heap.size g gI (.slice (some ⟨b, off, none⟩) fs.length c) (thArr d.th B cb) #[.int .i64 op, .int .i64 (a : Int), .int .i64 ib, .int .i64 ic, .int .i64 inn] w' → (loadVar 32 ⟨gI, 0, none⟩).run Tryd.prog w' = .ok (.agg #[.int .i64 op, .int .i64 (a : Int), .int .i64 ib, .int .i64 ic, .int .i64 inn]) w' := fun w' h => run_loadVar_cells w' gI 0 _ _ _ h.2.1 Tryd.underlying32 rfl (Tryd.infoIns5 _ _ _ _ _)
          have LT : ∀ w', S10 w.heap.size g gI (.slice (some ⟨b, off, none⟩) fs.length c) (thArr d.th B cb) #[.int .i64 op, .int .i64 (a : Int), .int .i64 ib, .int .i64 ic, .int .i64 inn] w' → (loadVar 28 ⟨g, 2, none⟩).run Tryd.prog w' = .ok (.agg (thArr d.th B cb)) w' := fun w' h => run_loadVar_cells w' g 2 _ _ _ h.2.2 Tryd.underlying28 rfl HSZT.out
          have HPa := Lib.hid (HIV.out.prg.below HBa.out HIV.out.prg.lt)
          have HWa := Lib.hid (HIV.out.blk.below HBa.out HIV.out.blk.lt)
          have HSa := Lib.hid (s10_of (w' := wa.drew) HPa.out.drew HIa.out.drew HWa.out.drew h8)
          go_wp2_with fail
          refine region_tree (S10 w.heap.size g gI (.slice (some ⟨b, off, none⟩) fs.length c) (thArr d.th B cb) #[.int .i64 op, .int .i64 (a : Int), .int .i64 ib, .int .i64 ic, .int .i64 inn]) (.two [0, 1, 2, 3, 4, 5, 6, 7] 8 (.two [] 9 (.one [10, 11, 12, 13] 14 (.one [] 15 (.fin [16, 17]))) 14 (.one [] 9 (.one [10, 11, 12, 13] 15 (.fin [16, 17])))) 14 (.one [] 8 (.one [] 9 (.one [10, 11, 12, 13] 15 (.fin [16, 17]))))) (by kernel_rfl) (by kernel_rfl) (by kernel_rfl) (fun _ _ d _ _ h => by cases d <;> exact h) HSa.out ?_
          (try simp only [Act.put]); refine tree_two ?_; simp only [pickOps, List.getElem?_toArray, List.getElem?_cons_zero, List.getElem?_cons_succ]; (repeat (first | (refine quiet_load_at (by rfl) 28 _ rfl ⟨g, 2, none⟩ rfl (thArr d.th B cb) LT ?_; simp only [Act.put, List.setIfInBounds_toArray, List.set_cons_zero, List.set_cons_succ]) | (refine quiet_load_at (by rfl) 32 _ rfl ⟨gI, 0, none⟩ rfl #[.int .i64 op, .int .i64 (a : Int), .int .i64 ib, .int .i64 ic, .int .i64 inn] LI ?_; simp only [Act.put, List.setIfInBounds_toArray, List.set_cons_zero, List.set_cons_succ]) | go_big_quiet_skip | (go_big_quiet_want; first | (go_big_quiet_op; first | go_big_quiet_on | ((first | with_reducible refine ⟨_, fun _ _ => rfl, ?_⟩); go_big_quiet_on)) | (simp (contextual := true) [go_sem, F0]; with_reducible refine ⟨_, fun _ _ => rfl, ?_⟩; go_big_quiet_on)))); refine wpQuiet_nil ?_
          refine ⟨?_, ?_⟩
          · go_wp2_with fail
            refine (answer_any d E B ce cb g op ib ic inn a ha8 wa.drew HWa.out.drew HH8.out w.heap.size (by omega)).mono ?_
            rintro e w3 ⟨rfl, hW3, hO3, hb3⟩
            generalize hax : ansA d op (d.th.regs.getD a 0) = ax at *
            obtain ⟨ans, tok⟩ := ax
            have HX := Lib.hid hax
            clear hax
            simp only at hW3 ⊢
            have HW3 := Lib.hid hW3
            have HP3 := Lib.hid (hO3.blk HPa.out.drew (by omega))
            have HI3 := Lib.hid (hO3.blk HIa.out.drew (by rw [HGI.out]; omega))
            have HB3 := Lib.hid ((HIV.out.bel.trans (HBa.out.mono HIV.out.bel.size)).drew.trans hb3)
            have HK3 := Lib.hid (thok_off (HIV.out.ok.step HBa.out).drew_ hO3.1 (HIV.out.neB.imp id fun hn x hx hxl => hO3.2 x hxl (by have := (hn x hx).1; omega)))
            have HE3 := Lib.hid (hO3.own (own_below HIV.out.own HBa.out.drew) HIV.out.neE)
            have HR3 := Lib.hid (show ∃ old, Blk w3 (w.heap.size + 1) 46 old ∧ old.size = 15 from by obtain ⟨old, ho, hs⟩ := HIV.out.res; exact ⟨old, hO3.blk (ho.below HBa.out ho.lt).drew (by omega), hs⟩)
            clear hW3 hO3 hb3
            go_wp2_with fail
            refine ⟨(S10 w.heap.size g gI (.slice (some ⟨b, off, none⟩) fs.length c) (thArr d.th B cb) #[.int .i64 op, .int .i64 (a : Int), .int .i64 ib, .int .i64 ic, .int .i64 inn]), s10_of (d := { d with token := tok }) HP3.out HI3.out HW3.out HH8.out, fun _ h => h, ?_⟩
            (try simp only [Act.put, List.setIfInBounds_toArray, List.set_cons_zero, List.set_cons_succ]); refine tree_two ?_; simp only [pickOps, List.getElem?_toArray, List.getElem?_cons_zero, List.getElem?_cons_succ]; (repeat (first | go_big_quiet_skip | (go_big_quiet_want; first | (go_big_quiet_op; first | go_big_quiet_on | ((first | with_reducible refine ⟨_, fun _ _ => rfl, ?_⟩); go_big_quiet_on)) | (simp (contextual := true) [go_sem, HH8]; with_reducible refine ⟨_, fun _ _ => rfl, ?_⟩; go_big_quiet_on)))); refine wpQuiet_nil ?_
            refine ⟨?_, ?_⟩
            · go_wp2_with fail
              refine (vmDo_any d.th (some ⟨b, off, none⟩) B c cb fs ans w3 (HTA.out.step HB3.out) HM.out (HF.out.step HB3.out) HK3.out HIV.out.fits (by have := HIV.out.stack; omega)).mono ?_
              rintro e w4 ⟨B4, d4, rfl, hok4, hfr4, hb4⟩
              have HFU := Lib.hid (fits_step ans HIV.out.fits)
              have HSU := Lib.hid (step_small12 fs d.th ans HIV.out.stack HIV.out.fits)
              generalize hrr : stepT fs d.th ans = rr at *
              obtain ⟨u, nn, did⟩ := rr
              have HST := Lib.hid hrr
              clear hrr
              simp only at hok4 ⊢
              have HK4 := Lib.hid hok4
              have HFR4 := Lib.hid hfr4
              have HW4 := Lib.hid (HW3.out.below hb4 HW3.out.lt)
              have HP4 := Lib.hid (HP3.out.below hb4 HP3.out.lt)
              have HI4 := Lib.hid (HI3.out.below hb4 HI3.out.lt)
              have HB4 := Lib.hid (HB3.out.trans (hb4.mono HB3.out.size))
              have HE4 := Lib.hid (own_below HE3.out hb4)
              have HSZ4 := Lib.hid hb4.size
              have HR4 := Lib.hid (show ∃ old, Blk w4 (w.heap.size + 1) 46 old ∧ old.size = 15 from by obtain ⟨old, ho, hs⟩ := HR3.out; exact ⟨old, ho.below hb4 ho.lt, hs⟩)
              clear hok4 hfr4 hb4
              go_wp2_with fail
              refine ⟨(S10 w.heap.size g gI (.slice (some ⟨b, off, none⟩) fs.length c) (thArr d.th B cb) #[.int .i64 op, .int .i64 (a : Int), .int .i64 ib, .int .i64 ic, .int .i64 inn]), s10_of (d := { d with token := tok }) HP4.out HI4.out HW4.out HH8.out, fun _ h => h, ?_⟩
              (try simp only [Act.put, List.setIfInBounds_toArray, List.set_cons_zero, List.set_cons_succ]); refine tree_one ?_; simp only [pickOps, List.getElem?_toArray, List.getElem?_cons_zero, List.getElem?_cons_succ]; (repeat (first | go_big_quiet_skip | (go_big_quiet_want; first | (go_big_quiet_op; first | go_big_quiet_on | ((first | with_reducible refine ⟨_, fun _ _ => rfl, ?_⟩); go_big_quiet_on)) | (simp (contextual := true) [go_sem, HH8]; with_reducible refine ⟨_, fun _ _ => rfl, ?_⟩; go_big_quiet_on)))); refine wpQuiet_nil ?_
              go_wp2_with fail
              have HSZU := Lib.hid (show (Tryd.prog.info? 28).map (·.size) = some (thArr u B4 d4).size by rw [thArr_size B4 d4 HK4.out.regs]; exact Tryd.infoTh)
              refine ⟨(S10 w.heap.size g gI (.slice (some ⟨b, off, none⟩) fs.length c) (thArr d.th B cb) #[.int .i64 op, .int .i64 (a : Int), .int .i64 ib, .int .i64 ic, .int .i64 inn]), s10_of (d := { d with token := tok }) (HP4.out.alloc _) (HI4.out.alloc _) (HW4.out.alloc _) HH8.out, fun _ h => h, ?_⟩
              (try simp only [Act.put, List.setIfInBounds_toArray, List.set_cons_zero, List.set_cons_succ]); refine tree_one ?_; simp only [pickOps, List.getElem?_toArray, List.getElem?_cons_zero, List.getElem?_cons_succ]; (repeat (first | go_big_quiet_skip | (go_big_quiet_want; first | (go_big_quiet_op; first | go_big_quiet_on | ((first | with_reducible refine ⟨_, fun _ _ => rfl, ?_⟩); go_big_quiet_on)) | (simp (contextual := true) [go_sem, HH8]; with_reducible refine ⟨_, fun _ _ => rfl, ?_⟩; go_big_quiet_on)))); refine wpQuiet_nil ?_
              have hne1 : w.heap.size ≠ w4.heap.size := by have := HP4.out.lt; omega
              have hne2 : gI ≠ w4.heap.size := by have := HI4.out.lt; omega
              have hne3 : g ≠ w4.heap.size := by have := HW4.out.lt; omega
              have hw5 : ∃ w5 : World, Hid (w5 = (w4.alloc (.cells #[.int .i64 0, .int .i64 0, .int .i64 0, .int .i64 0, .int .i64 0, .int .i64 0, .int .i64 0, .int .i64 0, .int .i64 0, .int .i64 0, .slice none 0 0, .bool false] 28)).setRow w4.heap.size (thArr u B4 d4)) := ⟨_, rfl⟩
              obtain ⟨w5, HW5'⟩ := hw5
              have HP5 := Lib.hid (show Blk w5 w.heap.size 24 #[.slice (some ⟨b, off, none⟩) fs.length c] by rw [HW5'.out]; exact (HP4.out.alloc _).farRow hne1 _)
              have HI5 := Lib.hid (show Blk w5 gI 32 #[.int .i64 op, .int .i64 (a : Int), .int .i64 ib, .int .i64 ic, .int .i64 inn] by rw [HW5'.out]; exact (HI4.out.alloc _).farRow hne2 _)
              have HW5 := Lib.hid (show Blk w5 g 71 (wdArr { d with token := tok } E ce B cb) by rw [HW5'.out]; exact (HW4.out.alloc _).farRow hne3 _)
              have HT5 := Lib.hid (show Blk w5 w4.heap.size 28 (thArr u B4 d4) by rw [HW5'.out]; exact (Blk.new w4 _ _).setRow _)
              have HB5 := Lib.hid (show Below w4.heap.size w4 w5 by rw [HW5'.out]; exact below_setRow ((Below.refl _ _).alloc (Nat.le_refl _) _) (Nat.le_refl _) (by simp) _)
              go_wp2_with (refine wpList_store_row rfl 28 _ _ rfl w4.heap.size (thArr u B4 d4) rfl rfl 28 _ (Blk.new w4 _ _) HSZU.out (by rw [thArr_size B4 d4 HK4.out.regs]; rfl) (thArr_one u B4 d4) ?_; rw [← HW5'.out])
              refine ⟨(S10 w.heap.size g gI (.slice (some ⟨b, off, none⟩) fs.length c) (thArr d.th B cb) #[.int .i64 op, .int .i64 (a : Int), .int .i64 ib, .int .i64 ic, .int .i64 inn]), s10_of (d := { d with token := tok }) HP5.out HI5.out HW5.out HH8.out, fun _ h => h, ?_⟩
              (try simp only [Act.put]); refine tree_fin ?_; simp only [pickOps, List.getElem?_toArray, List.getElem?_cons_zero, List.getElem?_cons_succ]; (repeat (first | go_big_quiet_skip | (go_big_quiet_want; first | (go_big_quiet_op; first | go_big_quiet_on | ((first | with_reducible refine ⟨_, fun _ _ => rfl, ?_⟩); go_big_quiet_on)) | (simp (contextual := true) [go_sem, HH8]; with_reducible refine ⟨_, fun _ _ => rfl, ?_⟩; go_big_quiet_on)))); refine wpQuiet_nil ?_
              have HE5 := Lib.hid (own_below HE4.out HB5.out)
              have HK5 := Lib.hid (HK4.out.step HB5.out)
              have HB5w := Lib.hid (HB4.out.trans (HB5.out.mono HB4.out.size))
              have HSZ5 := Lib.hid (Nat.le_trans HSZ4.out HB5.out.size)
              have HR5 := Lib.hid (show ∃ old, Blk w5 (w.heap.size + 1) 46 old ∧ old.size = 15 from by obtain ⟨old, ho, hs⟩ := HR4.out; exact ⟨old, ho.below HB5.out ho.lt, hs⟩)
              have hgt : ∃ gT : Nat, Hid (gT = w4.heap.size) := ⟨_, rfl⟩
              obtain ⟨gT, HGT⟩ := hgt
              rw [← HGT.out]
              rw [← HGT.out] at HT5
              have hw6 : ∃ w6 : World, Hid (w6 = w5.setRow g (splice (wdArr { d with token := tok } E ce B cb) 2 (thArr u B4 d4))) := ⟨_, rfl⟩
              obtain ⟨w6, HW6'⟩ := hw6
              have hgIg : gI ≠ g := by rw [HGI.out]; omega
              have hgw5 : g < w5.heap.size := HW5.out.lt
              have HW6 := Lib.hid (show Blk w6 g 71 (wdArr { d with token := tok, th := u } E ce B4 d4) by rw [HW6'.out]; have := HW5.out.setRow (splice (wdArr { d with token := tok } E ce B cb) 2 (thArr u B4 d4)); rw [splice_th (d := { d with token := tok }) E ce B B4 cb d4 u HH8.out HK4.out.regs] at this ⊢; exact this)
              have HI6 := Lib.hid (show Blk w6 gI 32 #[.int .i64 op, .int .i64 (a : Int), .int .i64 ib, .int .i64 ic, .int .i64 inn] by rw [HW6'.out]; exact HI5.out.farRow hgIg _)
              have HP6 := Lib.hid (show Blk w6 w.heap.size 24 #[.slice (some ⟨b, off, none⟩) fs.length c] by rw [HW6'.out]; exact HP5.out.farRow (by omega) _)
              have HE6 := Lib.hid (show Own w6 g 2 1 E d.emits.length ce (ints d.emits) by rw [HW6'.out]; exact HE5.out.kept (grown_setRow _ _ _) HIV.out.neE)
              have HK6 := Lib.hid (show ThOk w6 w6.heap.size u B4 d4 by rw [HW6'.out]; exact thok_far HK5.out (.inr fun x hx => by have := HFR4.out x hx; have := HW3.out.lt; omega) _)
              have HB6 := Lib.hid (show Below w.heap.size w w6 by rw [HW6'.out]; exact below_setRow HB5w.out (by omega) HB5w.out.size _)
              have j0 := HI6.out.cell 0
              have j1 := HI6.out.cell 1
              have j2 := HI6.out.cell 2
              have j3 := HI6.out.cell 3
              have j4 := HI6.out.cell 4
              simp only [List.getElem?_toArray, List.getElem?_cons_zero, List.getElem?_cons_succ] at j0 j1 j2 j3 j4
              go_wp2_with (first | (refine wpList_load_rowW (by rfl) 28 _ rfl gT rfl 28 (thArr u B4 d4) (0, 0) _ HT5.out Tryd.underlying28 rfl HSZU.out ?_) | (refine wpList_store_sub rfl 28 _ _ rfl g 2 (thArr u B4 d4) rfl rfl 71 _ HW5.out HSZU.out (by rw [thArr_size B4 d4 HK4.out.regs, wdArr_size (d := { d with token := tok }) E ce B cb HH8.out]; decide) (thArr_one u B4 d4) ?_; rw [← HW6'.out]))
              have hsk0 := HIV.out.steps
              have hem0 := HIV.out.small
              refine (done_any { d with token := tok, th := u } E B4 ce d4 g g op a ib ic inn nn w6 HW6.out HK6.out.regs (Nat.le_refl _) HE6.out HIV.out.neE (by show 0 ≤ d.steps; omega) (by show d.steps ≤ 70000; omega) (by show d.emits.length ≤ 70000; omega)).mono ?_
              rintro e w7 ⟨⟨v, rfl⟩, E7, ce7, h7⟩
              have H7 := Lib.hid h7
              clear h7 j0 j1 j2 j3 j4
              go_wp2_with fail
              have hE3 : ∀ x, ob E = some x → x < w3.heap.size ∧ g ≤ x := fun x hx => ⟨(HE3.out.lt x hx).2, (HE3.out.lt x hx).1⟩
              have hsz36 : w3.heap.size ≤ w6.heap.size := by rw [HW6'.out, setRow_size]; exact HSZ5.out
              have hg3 : g < w3.heap.size := HW3.out.lt
              have hfr : ∀ x, ob B4 = some x → g < x ∧ ob E ≠ some x := fun x hx => by
                have h1 := HFR4.out x hx
                refine ⟨by omega, fun h2 => ?_⟩
                have := (hE3 x h2).1
                omega
              refine ⟨⟨k + 1, doneA { d with token := tok, th := u } op nn, E7, ce7, B4, d4, by omega, by simp, ?_, ?_⟩, by simp [intOf]; omega⟩
              · show runA fs (n - (k + 1)) _ = _
                have e1 : n - k = (n - (k + 1)) + 1 := by omega
                rw [← HRA.out, e1]
                show _ = (if d.th.done = true ∨ d.stuck = true then d else runA fs (n - (k + 1)) (stepA fs d))
                rw [if_neg (by rw [hdn, hsk]; decide)]
                have e2 : stepA fs d = doneA { d with token := tok, th := u } op nn := by
                  unfold stepA
                  simp only [HEI.out]
                  have e3 : ansA d op (regOf d.th (a : Int)) = (ans, tok) := HX.out
                  simp only [e3, HST.out]
                rw [e2]
              · refine ⟨H7.out.blk, H7.out.own, ?_, ?_, ?_, ?_, ?_, ?_, ?_, ?_, ?_, ?_, HIV.out.lt⟩
                · rw [doneA_th]
                  refine thok_off HK6.out H7.out.bel.size (.inr fun x hx hxl => H7.out.keep x hxl (by have := (hfr x hx).1; omega) (fun h => (hfr x hx).2 h.symm))
                · rw [doneA_th]; exact HFU.out
                · rcases H7.out.fresh with h | ⟨x, h, hx⟩
                  · rw [h]; exact HIV.out.neE
                  · right
                    rw [h]
                    intro h2
                    injection h2 with h2
                    omega
                · rw [doneA_th]
                  rcases thok_lt HK6.out with h0 | hl
                  · exact .inl h0
                  · right
                    intro x hx
                    refine ⟨(hfr x hx).1, fun h2 => ?_⟩
                    rcases H7.out.fresh with h | ⟨y, h, hy⟩
                    · rw [h] at h2; exact (hfr x hx).2 h2
                    · rw [h] at h2
                      injection h2 with h2
                      have := hl x hx
                      omega
                · rw [doneA_steps]
                  show d.steps + 1 = _
                  omega
                · have := doneA_emits { d with token := tok, th := u } op nn
                  simp only at this
                  omega
                · rw [doneA_th]; exact HSU.out
                · exact (H7.out.keep _ (by have := HP6.out.lt; omega) (by omega) (fun h => by have := (hE3 _ h.symm).2; omega)).trans HP6.out
                · obtain ⟨old, ho, hs⟩ := HR5.out
                  have h5 : Blk w6 (w.heap.size + 1) 46 old := by rw [HW6'.out]; exact ho.farRow (by omega) _
                  exact ⟨old, (H7.out.keep _ h5.lt (by omega) (fun h => by have := (hE3 _ h.symm).2; omega)).trans h5, hs⟩
                · exact HB6.out.trans (H7.out.bel.mono (by omega))
            · go_wp2_with fail
              have HP3a := Lib.hid (HP3.out.alloc (.cells #[.int .i64 0, .int .i64 0, .int .i64 0, .int .i64 0, .int .i64 0, .int .i64 0, .int .i64 0, .int .i64 0, .int .i64 0, .int .i64 0, .slice none 0 0, .bool false] 28))
              have HI3a := Lib.hid (HI3.out.alloc (.cells #[.int .i64 0, .int .i64 0, .int .i64 0, .int .i64 0, .int .i64 0, .int .i64 0, .int .i64 0, .int .i64 0, .int .i64 0, .int .i64 0, .slice none 0 0, .bool false] 28))
              have HW3a := Lib.hid (HW3.out.alloc (.cells #[.int .i64 0, .int .i64 0, .int .i64 0, .int .i64 0, .int .i64 0, .int .i64 0, .int .i64 0, .int .i64 0, .int .i64 0, .int .i64 0, .slice none 0 0, .bool false] 28))
              have HB3a := Lib.hid (HB3.out.alloc HB3.out.size (.cells #[.int .i64 0, .int .i64 0, .int .i64 0, .int .i64 0, .int .i64 0, .int .i64 0, .int .i64 0, .int .i64 0, .int .i64 0, .int .i64 0, .slice none 0 0, .bool false] 28))
              refine ⟨(S10 w.heap.size g gI (.slice (some ⟨b, off, none⟩) fs.length c) (thArr d.th B cb) #[.int .i64 op, .int .i64 (a : Int), .int .i64 ib, .int .i64 ic, .int .i64 inn]), s10_of (d := { d with token := tok }) HP3a.out HI3a.out HW3a.out HH8.out, fun _ h => h, ?_⟩
              (try simp only [Act.put, List.setIfInBounds_toArray, List.set_cons_zero, List.set_cons_succ]); refine tree_one ?_; simp only [pickOps, List.getElem?_toArray, List.getElem?_cons_zero, List.getElem?_cons_succ]; (repeat (first | go_big_quiet_skip | (go_big_quiet_want; first | (go_big_quiet_op; first | go_big_quiet_on | ((first | with_reducible refine ⟨_, fun _ _ => rfl, ?_⟩); go_big_quiet_on)) | (simp (contextual := true) [go_sem, HH8]; with_reducible refine ⟨_, fun _ _ => rfl, ?_⟩; go_big_quiet_on)))); refine wpQuiet_nil ?_
              go_wp2_with fail
              refine (vmDo_any d.th (some ⟨b, off, none⟩) B c cb fs ans (w3.alloc (.cells #[.int .i64 0, .int .i64 0, .int .i64 0, .int .i64 0, .int .i64 0, .int .i64 0, .int .i64 0, .int .i64 0, .int .i64 0, .int .i64 0, .slice none 0 0, .bool false] 28)) (HTA.out.step HB3a.out) HM.out (HF.out.step HB3a.out) (HK3.out.step ((Below.refl _ _).alloc (Nat.le_refl _) _)) HIV.out.fits (by have := HIV.out.stack; omega)).mono ?_
              rintro e w4 ⟨B4, d4, rfl, hok4, hfr4, hb4⟩
              have HFU := Lib.hid (fits_step ans HIV.out.fits)
              have HSU := Lib.hid (step_small12 fs d.th ans HIV.out.stack HIV.out.fits)
              generalize hrr : stepT fs d.th ans = rr at *
              obtain ⟨u, nn, did⟩ := rr
              have HST := Lib.hid hrr
              clear hrr
              simp only at hok4 ⊢
              have hsa : (w3.alloc (.cells #[.int .i64 0, .int .i64 0, .int .i64 0, .int .i64 0, .int .i64 0, .int .i64 0, .int .i64 0, .int .i64 0, .int .i64 0, .int .i64 0, .slice none 0 0, .bool false] 28)).heap.size = w3.heap.size + 1 := World.size_alloc _ _
              have HK4 := Lib.hid hok4
              have HFR4a := Lib.hid hfr4
              have HFR4 := Lib.hid (show ∀ k, ob B4 = some k → w3.heap.size ≤ k from fun k hk => by have := HFR4a.out k hk; omega)
              have HW4 := Lib.hid (HW3a.out.below hb4 HW3a.out.lt)
              have HP4 := Lib.hid (HP3a.out.below hb4 HP3a.out.lt)
              have HI4 := Lib.hid (HI3a.out.below hb4 HI3a.out.lt)
              have HB4 := Lib.hid (HB3a.out.trans (hb4.mono HB3a.out.size))
              have HE4 := Lib.hid (own_below (HE3.out.alloc _) hb4)
              have HZ4 := Lib.hid ((Blk.new w3 28 #[.int .i64 0, .int .i64 0, .int .i64 0, .int .i64 0, .int .i64 0, .int .i64 0, .int .i64 0, .int .i64 0, .int .i64 0, .int .i64 0, .slice none 0 0, .bool false]).below hb4 (Blk.new w3 _ _).lt)
              have HSZ4 := Lib.hid (show w3.heap.size ≤ w4.heap.size by have := hb4.size; omega)
              have HR4 := Lib.hid (show ∃ old, Blk w4 (w.heap.size + 1) 46 old ∧ old.size = 15 from by obtain ⟨old, ho, hs⟩ := HR3.out; exact ⟨old, (ho.alloc _).below hb4 (ho.alloc _).lt, hs⟩)
              have HLT3 := Lib.hid (show w.heap.size < w3.heap.size ∧ gI < w3.heap.size ∧ g < w3.heap.size ∧ w.heap.size + 1 < w3.heap.size from ⟨HP3.out.lt, HI3.out.lt, HW3.out.lt, by have := HW3.out.lt; omega⟩)
              clear hok4 hfr4 hb4 hsa
              go_wp2_with fail
              have HSZU := Lib.hid (show (Tryd.prog.info? 28).map (·.size) = some (thArr u B4 d4).size by rw [thArr_size B4 d4 HK4.out.regs]; exact Tryd.infoTh)
              refine ⟨(S10 w.heap.size g gI (.slice (some ⟨b, off, none⟩) fs.length c) (thArr d.th B cb) #[.int .i64 op, .int .i64 (a : Int), .int .i64 ib, .int .i64 ic, .int .i64 inn]), s10_of (d := { d with token := tok }) HP4.out HI4.out HW4.out HH8.out, fun _ h => h, ?_⟩
              (try simp only [Act.put, List.setIfInBounds_toArray, List.set_cons_zero, List.set_cons_succ]); refine tree_one ?_; simp only [pickOps, List.getElem?_toArray, List.getElem?_cons_zero, List.getElem?_cons_succ]; (repeat (first | go_big_quiet_skip | (go_big_quiet_want; first | (go_big_quiet_op; first | go_big_quiet_on | ((first | with_reducible refine ⟨_, fun _ _ => rfl, ?_⟩); go_big_quiet_on)) | (simp (contextual := true) [go_sem, HH8]; with_reducible refine ⟨_, fun _ _ => rfl, ?_⟩; go_big_quiet_on)))); refine wpQuiet_nil ?_
              have hw5 : ∃ w5 : World, Hid (w5 = w4.setRow w3.heap.size (thArr u B4 d4)) := ⟨_, rfl⟩
              obtain ⟨w5, HW5'⟩ := hw5
              have HP5 := Lib.hid (show Blk w5 w.heap.size 24 #[.slice (some ⟨b, off, none⟩) fs.length c] by rw [HW5'.out]; exact HP4.out.farRow (by have := HLT3.out; omega) _)
              have HI5 := Lib.hid (show Blk w5 gI 32 #[.int .i64 op, .int .i64 (a : Int), .int .i64 ib, .int .i64 ic, .int .i64 inn] by rw [HW5'.out]; exact HI4.out.farRow (by have := HLT3.out; omega) _)
              have HW5 := Lib.hid (show Blk w5 g 71 (wdArr { d with token := tok } E ce B cb) by rw [HW5'.out]; exact HW4.out.farRow (by have := HLT3.out; omega) _)
              have HT5 := Lib.hid (show Blk w5 w3.heap.size 28 (thArr u B4 d4) by rw [HW5'.out]; exact HZ4.out.setRow _)
              have HE5 := Lib.hid (show Own w5 g 2 1 E d.emits.length ce (ints d.emits) by rw [HW5'.out]; exact HE4.out.kept (grown_setRow _ _ _) (by cases hE : ob E with | none => exact .inl rfl | some x => right; intro h; injection h with h; have := (HE3.out.lt x hE).2; omega))
              have HK5 := Lib.hid (show ThOk w5 w5.heap.size u B4 d4 by rw [HW5'.out]; exact thok_far HK4.out (.inr fun x hx => by have := HFR4a.out x hx; rw [World.size_alloc] at this; omega) _)
              have HB5w := Lib.hid (show Below w.heap.size w w5 by rw [HW5'.out]; exact below_setRow HB4.out (by have := HLT3.out; omega) HB4.out.size _)
              have HSZ5 := Lib.hid (show w3.heap.size ≤ w5.heap.size by rw [HW5'.out, setRow_size]; exact HSZ4.out)
              have HR5 := Lib.hid (show ∃ old, Blk w5 (w.heap.size + 1) 46 old ∧ old.size = 15 from by obtain ⟨old, ho, hs⟩ := HR4.out; exact ⟨old, by rw [HW5'.out]; exact ho.farRow (by have := HLT3.out; omega) _, hs⟩)
              go_wp2_with (refine wpList_store_row rfl 28 _ _ rfl w3.heap.size (thArr u B4 d4) rfl rfl 28 _ HZ4.out HSZU.out (by rw [thArr_size B4 d4 HK4.out.regs]; rfl) (thArr_one u B4 d4) ?_; rw [← HW5'.out])
              refine ⟨(S10 w.heap.size g gI (.slice (some ⟨b, off, none⟩) fs.length c) (thArr d.th B cb) #[.int .i64 op, .int .i64 (a : Int), .int .i64 ib, .int .i64 ic, .int .i64 inn]), s10_of (d := { d with token := tok }) HP5.out HI5.out HW5.out HH8.out, fun _ h => h, ?_⟩
              (try simp only [Act.put]); refine tree_fin ?_; simp only [pickOps, List.getElem?_toArray, List.getElem?_cons_zero, List.getElem?_cons_succ]; (repeat (first | go_big_quiet_skip | (go_big_quiet_want; first | (go_big_quiet_op; first | go_big_quiet_on | ((first | with_reducible refine ⟨_, fun _ _ => rfl, ?_⟩); go_big_quiet_on)) | (simp (contextual := true) [go_sem, HH8]; with_reducible refine ⟨_, fun _ _ => rfl, ?_⟩; go_big_quiet_on)))); refine wpQuiet_nil ?_
              have hgt : ∃ gT : Nat, Hid (gT = w3.heap.size) := ⟨_, rfl⟩
              obtain ⟨gT, HGT⟩ := hgt
              rw [← HGT.out]
              rw [← HGT.out] at HT5
              have hw6 : ∃ w6 : World, Hid (w6 = w5.setRow g (splice (wdArr { d with token := tok } E ce B cb) 2 (thArr u B4 d4))) := ⟨_, rfl⟩
              obtain ⟨w6, HW6'⟩ := hw6
              have hgIg : gI ≠ g := by rw [HGI.out]; omega
              have hgw5 : g < w5.heap.size := HW5.out.lt
              have HW6 := Lib.hid (show Blk w6 g 71 (wdArr { d with token := tok, th := u } E ce B4 d4) by rw [HW6'.out]; have := HW5.out.setRow (splice (wdArr { d with token := tok } E ce B cb) 2 (thArr u B4 d4)); rw [splice_th (d := { d with token := tok }) E ce B B4 cb d4 u HH8.out HK4.out.regs] at this ⊢; exact this)
              have HI6 := Lib.hid (show Blk w6 gI 32 #[.int .i64 op, .int .i64 (a : Int), .int .i64 ib, .int .i64 ic, .int .i64 inn] by rw [HW6'.out]; exact HI5.out.farRow hgIg _)
              have HP6 := Lib.hid (show Blk w6 w.heap.size 24 #[.slice (some ⟨b, off, none⟩) fs.length c] by rw [HW6'.out]; exact HP5.out.farRow (by omega) _)
              have HE6 := Lib.hid (show Own w6 g 2 1 E d.emits.length ce (ints d.emits) by rw [HW6'.out]; exact HE5.out.kept (grown_setRow _ _ _) HIV.out.neE)
              have HK6 := Lib.hid (show ThOk w6 w6.heap.size u B4 d4 by rw [HW6'.out]; exact thok_far HK5.out (.inr fun x hx => by have := HFR4.out x hx; have := HW3.out.lt; omega) _)
              have HB6 := Lib.hid (show Below w.heap.size w w6 by rw [HW6'.out]; exact below_setRow HB5w.out (by omega) HB5w.out.size _)
              have j0 := HI6.out.cell 0
              have j1 := HI6.out.cell 1
              have j2 := HI6.out.cell 2
              have j3 := HI6.out.cell 3
              have j4 := HI6.out.cell 4
              simp only [List.getElem?_toArray, List.getElem?_cons_zero, List.getElem?_cons_succ] at j0 j1 j2 j3 j4
              go_wp2_with (first | (refine wpList_load_rowW (by rfl) 28 _ rfl gT rfl 28 (thArr u B4 d4) (0, 0) _ HT5.out Tryd.underlying28 rfl HSZU.out ?_) | (refine wpList_store_sub rfl 28 _ _ rfl g 2 (thArr u B4 d4) rfl rfl 71 _ HW5.out HSZU.out (by rw [thArr_size B4 d4 HK4.out.regs, wdArr_size (d := { d with token := tok }) E ce B cb HH8.out]; decide) (thArr_one u B4 d4) ?_; rw [← HW6'.out]))
              have hsk0 := HIV.out.steps
              have hem0 := HIV.out.small
              refine (done_any { d with token := tok, th := u } E B4 ce d4 g g op a ib ic inn nn w6 HW6.out HK6.out.regs (Nat.le_refl _) HE6.out HIV.out.neE (by show 0 ≤ d.steps; omega) (by show d.steps ≤ 70000; omega) (by show d.emits.length ≤ 70000; omega)).mono ?_
              rintro e w7 ⟨⟨v, rfl⟩, E7, ce7, h7⟩
              have H7 := Lib.hid h7
              clear h7 j0 j1 j2 j3 j4
              go_wp2_with fail
              have hE3 : ∀ x, ob E = some x → x < w3.heap.size ∧ g ≤ x := fun x hx => ⟨(HE3.out.lt x hx).2, (HE3.out.lt x hx).1⟩
              have hsz36 : w3.heap.size ≤ w6.heap.size := by rw [HW6'.out, setRow_size]; exact HSZ5.out
              have hg3 : g < w3.heap.size := HW3.out.lt
              have hfr : ∀ x, ob B4 = some x → g < x ∧ ob E ≠ some x := fun x hx => by
                have h1 := HFR4.out x hx
                refine ⟨by omega, fun h2 => ?_⟩
                have := (hE3 x h2).1
                omega
              refine ⟨⟨k + 1, doneA { d with token := tok, th := u } op nn, E7, ce7, B4, d4, by omega, by simp, ?_, ?_⟩, by simp [intOf]; omega⟩
              · show runA fs (n - (k + 1)) _ = _
                have e1 : n - k = (n - (k + 1)) + 1 := by omega
                rw [← HRA.out, e1]
                show _ = (if d.th.done = true ∨ d.stuck = true then d else runA fs (n - (k + 1)) (stepA fs d))
                rw [if_neg (by rw [hdn, hsk]; decide)]
                have e2 : stepA fs d = doneA { d with token := tok, th := u } op nn := by
                  unfold stepA
                  simp only [HEI.out]
                  have e3 : ansA d op (regOf d.th (a : Int)) = (ans, tok) := HX.out
                  simp only [e3, HST.out]
                rw [e2]
              · refine ⟨H7.out.blk, H7.out.own, ?_, ?_, ?_, ?_, ?_, ?_, ?_, ?_, ?_, ?_, HIV.out.lt⟩
                · rw [doneA_th]
                  refine thok_off HK6.out H7.out.bel.size (.inr fun x hx hxl => H7.out.keep x hxl (by have := (hfr x hx).1; omega) (fun h => (hfr x hx).2 h.symm))
                · rw [doneA_th]; exact HFU.out
                · rcases H7.out.fresh with h | ⟨x, h, hx⟩
                  · rw [h]; exact HIV.out.neE
                  · right
                    rw [h]
                    intro h2
                    injection h2 with h2
                    omega
                · rw [doneA_th]
                  rcases thok_lt HK6.out with h0 | hl
                  · exact .inl h0
                  · right
                    intro x hx
                    refine ⟨(hfr x hx).1, fun h2 => ?_⟩
                    rcases H7.out.fresh with h | ⟨y, h, hy⟩
                    · rw [h] at h2; exact (hfr x hx).2 h2
                    · rw [h] at h2
                      injection h2 with h2
                      have := hl x hx
                      omega
                · rw [doneA_steps]
                  show d.steps + 1 = _
                  omega
                · have := doneA_emits { d with token := tok, th := u } op nn
                  simp only at this
                  omega
                · rw [doneA_th]; exact HSU.out
                · exact (H7.out.keep _ (by have := HP6.out.lt; omega) (by omega) (fun h => by have := (hE3 _ h.symm).2; omega)).trans HP6.out
                · obtain ⟨old, ho, hs⟩ := HR5.out
                  have h5 : Blk w6 (w.heap.size + 1) 46 old := by rw [HW6'.out]; exact ho.farRow (by omega) _
                  exact ⟨old, (H7.out.keep _ h5.lt (by omega) (fun h => by have := (hE3 _ h.symm).2; omega)).trans h5, hs⟩
                · exact HB6.out.trans (H7.out.bel.mono (by omega))
          · go_wp2_with fail
            have hwb : ∃ wb : World, Hid (wb = (wa.alloc (.cells #[.int .i64 0, .int .i64 0, .int .i64 0, .int .i64 0, .int .i64 0, .int .i64 0, .int .i64 0, .int .i64 0, .int .i64 0, .int .i64 0, .slice none 0 0, .bool false] 28)).drew) := ⟨_, rfl⟩
            obtain ⟨wb, HWB⟩ := hwb
            rw [← HWB.out]
            have HBb := Lib.hid (show Below wa.heap.size wa wb by rw [HWB.out]; exact ((Below.refl _ _).alloc (Nat.le_refl _) _).drew)
            have HPb := Lib.hid (HPa.out.below HBb.out HPa.out.lt)
            have HIb := Lib.hid (HIa.out.below HBb.out HIa.out.lt)
            have HWb := Lib.hid (HWa.out.below HBb.out HWa.out.lt)
            have HZb := Lib.hid (show Blk wb wa.heap.size 28 #[.int .i64 0, .int .i64 0, .int .i64 0, .int .i64 0, .int .i64 0, .int .i64 0, .int .i64 0, .int .i64 0, .int .i64 0, .int .i64 0, .slice none 0 0, .bool false] by rw [HWB.out]; exact (Blk.new wa _ _).drew)
            have HLTa := Lib.hid (show w.heap.size < wa.heap.size ∧ gI < wa.heap.size ∧ g < wa.heap.size from ⟨HPa.out.lt, HIa.out.lt, HWa.out.lt⟩)
            have hgt0 : ∃ gZ : Nat, Hid (gZ = wa.heap.size) := ⟨_, rfl⟩
            obtain ⟨gZ, HGZ⟩ := hgt0
            have hdz : wa.heap.size = gZ := HGZ.out.symm
            rw [hdz]
            rw [← HGZ.out] at HZb HLTa
            have HBab := Lib.hid (HBa.out.trans (HBb.out.mono HBa.out.size))
            clear hdz
            refine ⟨(S10 w.heap.size g gI (.slice (some ⟨b, off, none⟩) fs.length c) (thArr d.th B cb) #[.int .i64 op, .int .i64 (a : Int), .int .i64 ib, .int .i64 ic, .int .i64 inn]), s10_of HPb.out HIb.out HWb.out HH8.out, fun _ h => h, ?_⟩
            (try simp only [Act.put, List.setIfInBounds_toArray, List.set_cons_zero, List.set_cons_succ]); refine tree_one ?_; simp only [pickOps, List.getElem?_toArray, List.getElem?_cons_zero, List.getElem?_cons_succ]; (repeat (first | go_big_quiet_skip | (go_big_quiet_want; first | (go_big_quiet_op; first | go_big_quiet_on | ((first | with_reducible refine ⟨_, fun _ _ => rfl, ?_⟩); go_big_quiet_on)) | (simp (contextual := true) [go_sem, HH8]; with_reducible refine ⟨_, fun _ _ => rfl, ?_⟩; go_big_quiet_on)))); refine wpQuiet_nil ?_
            go_wp2_with fail
            refine (answer_any d E B ce cb g op ib ic inn a ha8 wb HWb.out HH8.out w.heap.size (by omega)).mono ?_
            rintro e w3 ⟨rfl, hW3, hO3, hb3⟩
            generalize hax : ansA d op (d.th.regs.getD a 0) = ax at *
            obtain ⟨ans, tok⟩ := ax
            have HX := Lib.hid hax
            clear hax
            simp only at hW3 ⊢
            have HW3 := Lib.hid hW3
            have HP3 := Lib.hid (hO3.blk HPb.out (by omega))
            have HI3 := Lib.hid (hO3.blk HIb.out (by rw [HGI.out]; omega))
            have HZ3 := Lib.hid (hO3.blk HZb.out (by have := HLTa.out; omega))
            have HB3 := Lib.hid ((HIV.out.bel.trans (HBab.out.mono HIV.out.bel.size)).trans hb3)
            have HK3 := Lib.hid (thok_off (HIV.out.ok.step HBab.out) hO3.1 (HIV.out.neB.imp id fun hn x hx hxl => hO3.2 x hxl (by have := (hn x hx).1; omega)))
            have HE3 := Lib.hid (hO3.own (own_below HIV.out.own HBab.out) HIV.out.neE)
            have HEZ := Lib.hid (show ∀ x, ob E = some x → x < gZ from fun x hx => by have := (HIV.out.own.lt x hx).2; have := HBa.out.size; have := HGZ.out; omega)
            have HR3 := Lib.hid (show ∃ old, Blk w3 (w.heap.size + 1) 46 old ∧ old.size = 15 from by obtain ⟨old, ho, hs⟩ := HIV.out.res; exact ⟨old, hO3.blk (ho.below HBab.out ho.lt) (by omega), hs⟩)
            clear hW3 hO3 hb3
            go_wp2_with fail
            refine ⟨(S10 w.heap.size g gI (.slice (some ⟨b, off, none⟩) fs.length c) (thArr d.th B cb) #[.int .i64 op, .int .i64 (a : Int), .int .i64 ib, .int .i64 ic, .int .i64 inn]), s10_of (d := { d with token := tok }) HP3.out HI3.out HW3.out HH8.out, fun _ h => h, ?_⟩
            (try simp only [Act.put, List.setIfInBounds_toArray, List.set_cons_zero, List.set_cons_succ]); refine tree_one ?_; simp only [pickOps, List.getElem?_toArray, List.getElem?_cons_zero, List.getElem?_cons_succ]; (repeat (first | go_big_quiet_skip | (go_big_quiet_want; first | (go_big_quiet_op; first | go_big_quiet_on | ((first | with_reducible refine ⟨_, fun _ _ => rfl, ?_⟩); go_big_quiet_on)) | (simp (contextual := true) [go_sem, HH8]; with_reducible refine ⟨_, fun _ _ => rfl, ?_⟩; go_big_quiet_on)))); refine wpQuiet_nil ?_
            go_wp2_with fail
            refine (vmDo_any d.th (some ⟨b, off, none⟩) B c cb fs ans w3 (HTA.out.step HB3.out) HM.out (HF.out.step HB3.out) HK3.out HIV.out.fits (by have := HIV.out.stack; omega)).mono ?_
            rintro e w4 ⟨B4, d4, rfl, hok4, hfr4, hb4⟩
            have HFU := Lib.hid (fits_step ans HIV.out.fits)
            have HSU := Lib.hid (step_small12 fs d.th ans HIV.out.stack HIV.out.fits)
            generalize hrr : stepT fs d.th ans = rr at *
            obtain ⟨u, nn, did⟩ := rr
            have HST := Lib.hid hrr
            clear hrr
            simp only at hok4 ⊢
            have HK4 := Lib.hid hok4
            have HFR4 := Lib.hid hfr4
            have HW4 := Lib.hid (HW3.out.below hb4 HW3.out.lt)
            have HP4 := Lib.hid (HP3.out.below hb4 HP3.out.lt)
            have HI4 := Lib.hid (HI3.out.below hb4 HI3.out.lt)
            have HB4 := Lib.hid (HB3.out.trans (hb4.mono HB3.out.size))
            have HE4 := Lib.hid (own_below HE3.out hb4)
            have HZ4 := Lib.hid (HZ3.out.below hb4 HZ3.out.lt)
            have HZL := Lib.hid HZ3.out.lt
            have HSZ4 := Lib.hid hb4.size
            have HR4 := Lib.hid (show ∃ old, Blk w4 (w.heap.size + 1) 46 old ∧ old.size = 15 from by obtain ⟨old, ho, hs⟩ := HR3.out; exact ⟨old, ho.below hb4 ho.lt, hs⟩)
            clear hok4 hfr4 hb4
            go_wp2_with fail
            have HSZU := Lib.hid (show (Tryd.prog.info? 28).map (·.size) = some (thArr u B4 d4).size by rw [thArr_size B4 d4 HK4.out.regs]; exact Tryd.infoTh)
            refine ⟨(S10 w.heap.size g gI (.slice (some ⟨b, off, none⟩) fs.length c) (thArr d.th B cb) #[.int .i64 op, .int .i64 (a : Int), .int .i64 ib, .int .i64 ic, .int .i64 inn]), s10_of (d := { d with token := tok }) HP4.out HI4.out HW4.out HH8.out, fun _ h => h, ?_⟩
            (try simp only [Act.put, List.setIfInBounds_toArray, List.set_cons_zero, List.set_cons_succ]); refine tree_one ?_; simp only [pickOps, List.getElem?_toArray, List.getElem?_cons_zero, List.getElem?_cons_succ]; (repeat (first | go_big_quiet_skip | (go_big_quiet_want; first | (go_big_quiet_op; first | go_big_quiet_on | ((first | with_reducible refine ⟨_, fun _ _ => rfl, ?_⟩); go_big_quiet_on)) | (simp (contextual := true) [go_sem, HH8]; with_reducible refine ⟨_, fun _ _ => rfl, ?_⟩; go_big_quiet_on)))); refine wpQuiet_nil ?_
            have hw5 : ∃ w5 : World, Hid (w5 = w4.setRow gZ (thArr u B4 d4)) := ⟨_, rfl⟩
            obtain ⟨w5, HW5'⟩ := hw5
            have HP5 := Lib.hid (show Blk w5 w.heap.size 24 #[.slice (some ⟨b, off, none⟩) fs.length c] by rw [HW5'.out]; exact HP4.out.farRow (by have := HLTa.out; omega) _)
            have HI5 := Lib.hid (show Blk w5 gI 32 #[.int .i64 op, .int .i64 (a : Int), .int .i64 ib, .int .i64 ic, .int .i64 inn] by rw [HW5'.out]; exact HI4.out.farRow (by have := HLTa.out; omega) _)
            have HW5 := Lib.hid (show Blk w5 g 71 (wdArr { d with token := tok } E ce B cb) by rw [HW5'.out]; exact HW4.out.farRow (by have := HLTa.out; omega) _)
            have HT5 := Lib.hid (show Blk w5 gZ 28 (thArr u B4 d4) by rw [HW5'.out]; exact HZ4.out.setRow _)
            have HE5 := Lib.hid (show Own w5 g 2 1 E d.emits.length ce (ints d.emits) by rw [HW5'.out]; exact HE4.out.kept (grown_setRow _ _ _) (by cases hE : ob E with | none => exact .inl rfl | some x => right; intro h; injection h with h; have := HEZ.out x hE; omega))
            have HK5 := Lib.hid (show ThOk w5 w5.heap.size u B4 d4 by rw [HW5'.out]; exact thok_far HK4.out (.inr fun x hx => by have := HFR4.out x hx; have := HZL.out; omega) _)
            have HB5w := Lib.hid (show Below w.heap.size w w5 by rw [HW5'.out]; exact below_setRow HB4.out (by have := HLTa.out; omega) HB4.out.size _)
            have HSZ5 := Lib.hid (show w3.heap.size ≤ w5.heap.size by rw [HW5'.out, setRow_size]; exact HSZ4.out)
            have HR5 := Lib.hid (show ∃ old, Blk w5 (w.heap.size + 1) 46 old ∧ old.size = 15 from by obtain ⟨old, ho, hs⟩ := HR4.out; exact ⟨old, by rw [HW5'.out]; exact ho.farRow (by have := HLTa.out; omega) _, hs⟩)
            go_wp2_with (refine wpList_store_row rfl 28 _ _ rfl gZ (thArr u B4 d4) rfl rfl 28 _ HZ4.out HSZU.out (by rw [thArr_size B4 d4 HK4.out.regs]; rfl) (thArr_one u B4 d4) ?_; rw [← HW5'.out])
            refine ⟨(S10 w.heap.size g gI (.slice (some ⟨b, off, none⟩) fs.length c) (thArr d.th B cb) #[.int .i64 op, .int .i64 (a : Int), .int .i64 ib, .int .i64 ic, .int .i64 inn]), s10_of (d := { d with token := tok }) HP5.out HI5.out HW5.out HH8.out, fun _ h => h, ?_⟩
            (try simp only [Act.put]); refine tree_fin ?_; simp only [pickOps, List.getElem?_toArray, List.getElem?_cons_zero, List.getElem?_cons_succ]; (repeat (first | go_big_quiet_skip | (go_big_quiet_want; first | (go_big_quiet_op; first | go_big_quiet_on | ((first | with_reducible refine ⟨_, fun _ _ => rfl, ?_⟩); go_big_quiet_on)) | (simp (contextual := true) [go_sem, HH8]; with_reducible refine ⟨_, fun _ _ => rfl, ?_⟩; go_big_quiet_on)))); refine wpQuiet_nil ?_
            have hgt : ∃ gT : Nat, Hid (gT = gZ) := ⟨_, rfl⟩
            obtain ⟨gT, HGT⟩ := hgt
            rw [← HGT.out]
            rw [← HGT.out] at HT5
            have hw6 : ∃ w6 : World, Hid (w6 = w5.setRow g (splice (wdArr { d with token := tok } E ce B cb) 2 (thArr u B4 d4))) := ⟨_, rfl⟩
            obtain ⟨w6, HW6'⟩ := hw6
            have hgIg : gI ≠ g := by rw [HGI.out]; omega
            have hgw5 : g < w5.heap.size := HW5.out.lt
            have HW6 := Lib.hid (show Blk w6 g 71 (wdArr { d with token := tok, th := u } E ce B4 d4) by rw [HW6'.out]; have := HW5.out.setRow (splice (wdArr { d with token := tok } E ce B cb) 2 (thArr u B4 d4)); rw [splice_th (d := { d with token := tok }) E ce B B4 cb d4 u HH8.out HK4.out.regs] at this ⊢; exact this)
            have HI6 := Lib.hid (show Blk w6 gI 32 #[.int .i64 op, .int .i64 (a : Int), .int .i64 ib, .int .i64 ic, .int .i64 inn] by rw [HW6'.out]; exact HI5.out.farRow hgIg _)
            have HP6 := Lib.hid (show Blk w6 w.heap.size 24 #[.slice (some ⟨b, off, none⟩) fs.length c] by rw [HW6'.out]; exact HP5.out.farRow (by omega) _)
            have HE6 := Lib.hid (show Own w6 g 2 1 E d.emits.length ce (ints d.emits) by rw [HW6'.out]; exact HE5.out.kept (grown_setRow _ _ _) HIV.out.neE)
            have HK6 := Lib.hid (show ThOk w6 w6.heap.size u B4 d4 by rw [HW6'.out]; exact thok_far HK5.out (.inr fun x hx => by have := HFR4.out x hx; have := HW3.out.lt; omega) _)
            have HB6 := Lib.hid (show Below w.heap.size w w6 by rw [HW6'.out]; exact below_setRow HB5w.out (by omega) HB5w.out.size _)
            have j0 := HI6.out.cell 0
            have j1 := HI6.out.cell 1
            have j2 := HI6.out.cell 2
            have j3 := HI6.out.cell 3
            have j4 := HI6.out.cell 4
            simp only [List.getElem?_toArray, List.getElem?_cons_zero, List.getElem?_cons_succ] at j0 j1 j2 j3 j4
            go_wp2_with (first | (refine wpList_load_rowW (by rfl) 28 _ rfl gT rfl 28 (thArr u B4 d4) (0, 0) _ HT5.out Tryd.underlying28 rfl HSZU.out ?_) | (refine wpList_store_sub rfl 28 _ _ rfl g 2 (thArr u B4 d4) rfl rfl 71 _ HW5.out HSZU.out (by rw [thArr_size B4 d4 HK4.out.regs, wdArr_size (d := { d with token := tok }) E ce B cb HH8.out]; decide) (thArr_one u B4 d4) ?_; rw [← HW6'.out]))
            have hsk0 := HIV.out.steps
            have hem0 := HIV.out.small
            refine (done_any { d with token := tok, th := u } E B4 ce d4 g g op a ib ic inn nn w6 HW6.out HK6.out.regs (Nat.le_refl _) HE6.out HIV.out.neE (by show 0 ≤ d.steps; omega) (by show d.steps ≤ 70000; omega) (by show d.emits.length ≤ 70000; omega)).mono ?_
            rintro e w7 ⟨⟨v, rfl⟩, E7, ce7, h7⟩
            have H7 := Lib.hid h7
            clear h7 j0 j1 j2 j3 j4
            go_wp2_with fail
            have hE3 : ∀ x, ob E = some x → x < w3.heap.size ∧ g ≤ x := fun x hx => ⟨(HE3.out.lt x hx).2, (HE3.out.lt x hx).1⟩
            have hsz36 : w3.heap.size ≤ w6.heap.size := by rw [HW6'.out, setRow_size]; exact HSZ5.out
            have hg3 : g < w3.heap.size := HW3.out.lt
            have hfr : ∀ x, ob B4 = some x → g < x ∧ ob E ≠ some x := fun x hx => by
              have h1 := HFR4.out x hx
              refine ⟨by omega, fun h2 => ?_⟩
              have := (hE3 x h2).1
              omega
            refine ⟨⟨k + 1, doneA { d with token := tok, th := u } op nn, E7, ce7, B4, d4, by omega, by simp, ?_, ?_⟩, by simp [intOf]; omega⟩
            · show runA fs (n - (k + 1)) _ = _
              have e1 : n - k = (n - (k + 1)) + 1 := by omega
              rw [← HRA.out, e1]
              show _ = (if d.th.done = true ∨ d.stuck = true then d else runA fs (n - (k + 1)) (stepA fs d))
              rw [if_neg (by rw [hdn, hsk]; decide)]
              have e2 : stepA fs d = doneA { d with token := tok, th := u } op nn := by
                unfold stepA
                simp only [HEI.out]
                have e3 : ansA d op (regOf d.th (a : Int)) = (ans, tok) := HX.out
                simp only [e3, HST.out]
              rw [e2]
            · refine ⟨H7.out.blk, H7.out.own, ?_, ?_, ?_, ?_, ?_, ?_, ?_, ?_, ?_, ?_, HIV.out.lt⟩
              · rw [doneA_th]
                refine thok_off HK6.out H7.out.bel.size (.inr fun x hx hxl => H7.out.keep x hxl (by have := (hfr x hx).1; omega) (fun h => (hfr x hx).2 h.symm))
              · rw [doneA_th]; exact HFU.out
              · rcases H7.out.fresh with h | ⟨x, h, hx⟩
                · rw [h]; exact HIV.out.neE
                · right
                  rw [h]
                  intro h2
                  injection h2 with h2
                  omega
              · rw [doneA_th]
                rcases thok_lt HK6.out with h0 | hl
                · exact .inl h0
                · right
                  intro x hx
                  refine ⟨(hfr x hx).1, fun h2 => ?_⟩
                  rcases H7.out.fresh with h | ⟨y, h, hy⟩
                  · rw [h] at h2; exact (hfr x hx).2 h2
                  · rw [h] at h2
                    injection h2 with h2
                    have := hl x hx
                    omega
              · rw [doneA_steps]
                show d.steps + 1 = _
                omega
              · have := doneA_emits { d with token := tok, th := u } op nn
                simp only at this
                omega
              · rw [doneA_th]; exact HSU.out
              · exact (H7.out.keep _ (by have := HP6.out.lt; omega) (by omega) (fun h => by have := (hE3 _ h.symm).2; omega)).trans HP6.out
              · obtain ⟨old, ho, hs⟩ := HR5.out
                have h5 : Blk w6 (w.heap.size + 1) 46 old := by rw [HW6'.out]; exact ho.farRow (by omega) _
                exact ⟨old, (H7.out.keep _ h5.lt (by omega) (fun h => by have := (hE3 _ h.symm).2; omega)).trans h5, hs⟩
              · exact HB6.out.trans (H7.out.bel.mono (by omega))
    · have hkn : k = n := by omega
      have HEND := Lib.hid (show runA fs (n - k) d = d by rw [hkn, Nat.sub_self]; rfl)
      have HRES := Lib.hid HIV.out.res
      obtain ⟨old, hold, hosz⟩ := HRES.out
      have HOLD := Lib.hid hold
      have HOSZ := Lib.hid hosz
      have HSZR := Lib.hid (show (Tryd.prog.info? 46).map (·.size) = some (resArr d E ce B cb).size by rw [resArr_size E ce B cb h8]; exact Tryd.infoRes)
      have H8 := Lib.hid h8
      have hcap : d.emits.length ≤ ce ∧ ce ≤ maxLen := by
        rcases HIV.out.own.2 with ⟨hv, h0⟩ | ⟨_, cap, _, hv, _, _, hnc, hcm, _⟩
        · injection hv with _ _ h3
          rw [h3, h0]
          exact ⟨Nat.le_refl _, Nat.zero_le _⟩
        · injection hv with _ _ h3
          rw [h3]
          exact ⟨hnc, hcm⟩
      have HCAP := Lib.hid hcap
      clear hold hosz h8 hcap
      go_wp2_with (first | (refine wpList_load_subW (by rfl) 46 _ rfl g 0 rfl 71 (wdArr d E ce B cb) (resArr d E ce B cb) _ HIV.out.blk (resArr_sub E ce B cb) Tryd.underlying46 rfl HSZR.out ?_) | (refine wpList_store_row rfl 46 _ _ rfl (w.heap.size + 1) (resArr d E ce B cb) rfl rfl 46 _ HOLD.out HSZR.out (by rw [resArr_size E ce B cb H8.out, HOSZ.out]) (resArr_one E ce B cb) ?_))
      rw [Exit.noGoto_ret]
      refine bodyPost_ret (results_cell2 Tryd.results23 _ _ (w.heap.size + 1) 46 (resArr d E ce B cb) (0, 0) _ rfl (HOLD.out.setRow _) Tryd.underlying46 rfl HSZR.out) rfl ⟨E, ce, B, cb, ?_, ?_, ?_, ?_, ?_, ?_⟩
      · rw [← HRA.out, HEND.out]; rfl
      · rw [← HRA.out, HEND.out]; exact (own_setRow HIV.out.own (g := w.heap.size + 1) HIV.out.lt _).rowN
      · rw [← HRA.out, HEND.out]; exact HCAP.out.1
      · exact HCAP.out.2
      · rw [← HRA.out, HEND.out]; exact thok_far HIV.out.ok (HIV.out.neB.imp id fun hn x hx => by have := (hn x hx).1; have := HIV.out.lt; omega) _
      · exact below_setRow HIV.out.bel (by omega) HIV.out.bel.size _
end Go.Proofs.YtoacnphgkgklcaaDoor

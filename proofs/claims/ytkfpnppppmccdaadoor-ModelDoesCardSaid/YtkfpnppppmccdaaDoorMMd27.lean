/-
  Chapter 27: the law of nil models. Condition: the table is laid.
-/
import Derived.Test.YtkfpnppppmccdaaDoorMMc27
import Derived.Test.YtkfpnppppmccdaaDoorMDo
import Derived.Test.YtkfpnppppmccdaaDoorLight9
namespace Go.Proofs.YtkfpnppppmccdaaDoor
open Go.RowKit
/-- What a commit comes to: the model then; is it allowed? -/
def commitP (fs : List Fn) (M : Md) (g : Int) (k : Nat) (i : Ins) (n : Int) : Md × Bool :=
  let r := deedP M g k i
  let s := stepT fs (goAt M k).th r.1
  if s.2.1 = n then
    let M2 : Md := { r.2 with l := r.2.l.set k { goAt r.2 k with th := s.1, beg := false } }
    (if s.1.done = true then goneM M2 g else M2, true)
  else (M, false)
theorem step_small12 (fs : List Fn) (t : Th) (ans : Int) (h : t.stack.length ≤ 40) (hf : fitsT fs t = true) : (stepT fs t ans).1.stack.length ≤ 40 := by
  have h2 := fits_step ans hf
  cases hd : (stepT fs t ans).1.done with
  | false => have := stack_le h2 hd; omega
  | true =>
    cases hd0 : t.done with
    | true => unfold stepT; rw [if_pos hd0]; exact h
    | false =>
      have hsl := stack_le hf hd0
      unfold stepT at hd ⊢
      rw [hd0] at hd ⊢
      simp only [Bool.false_eq_true, if_false] at hd ⊢
      generalize insAt fs t.fn t.pc = i at *
      unfold stepI at *
      have hmv : ∀ u, moveT i { t with regs := regs1 i t ans, pc := t.pc + 1 } = some u → u.done = false := by
        intro u hu
        unfold moveT at hu
        split at hu
        · injection hu with hu; rw [← hu]; split <;> exact hd0
        split at hu
        · injection hu with hu; rw [← hu]; exact hd0
        split at hu
        · split at hu
          · cases hu
          · injection hu with hu; rw [← hu]; exact hd0
        split at hu
        · split at hu
          · cases hu
          · injection hu with hu; rw [← hu]; exact hd0
        split at hu
        · cases hu
        · injection hu with hu; rw [← hu]; exact hd0
      split at hd
      · decide
      · rename_i u hm
        rw [hmv u hm] at hd
        cases hd
section
variable {P : Program}
/-- What a block holds behind a struct was written into it. -/
def splice (X : Array Value) (off : Nat) (cs : Array Value) : Array Value := (X.toList.take off ++ cs.toList ++ X.toList.drop (off + cs.size)).toArray
theorem run_storeVar_sub (w : World) (g off : Nat) (t ty : TypeId) (X cs : Array Value) (hg : Blk w g t X) (hi : (P.info? ty).map (·.size) = some cs.size) (ho : off + cs.size ≤ X.size) (h1 : cs.all (·.oneCell') = true) :
    (storeVar ty ⟨g, off, none⟩ (.agg cs)).run P w = .ok () (w.setRow g (splice X off cs)) := by
  have := run_storeCells_at (P := P) g off t cs.toList 0 X w hg (by simp; omega) (fun v hv => (Array.all_eq_true_iff_forall_mem.1 h1) v (by simpa using hv))
  cases hq : P.info? ty with
  | none => simp [hq] at hi
  | some i =>
    have hs : cs.size = i.size := by simp [hq] at hi; omega
    unfold splice
    simp [storeVar, sizeOf, typeInfo, hq, Value.cells, hs, this]
theorem wpList_store_sub {ops : Array Oper} {rest : List Oper} {o : Oper} {a : Act} {w : World} {Q : Exit → Act → World → Prop} (hgd : o.guard = none) (ty : TypeId) (x y : Operand) (ho : o.op = .store ty x y)
    (g off : Nat) (cs : Array Value) (hx : a.eval x = .pointer (some ⟨g, off, none⟩)) (hy : a.eval y = .agg cs) (t : TypeId) (X : Array Value) (hg : Blk w g t X) (hi : (P.info? ty).map (·.size) = some cs.size)
    (hs : off + cs.size ≤ X.size) (h1 : cs.all (·.oneCell') = true)
    (h : wpList P ops Q rest (a.put o.dst undef) (w.setRow g (splice X off cs))) : wpList P ops Q (o :: rest) a w :=
  wpList_plain hgd fun _ hK => by
    unfold Oper.wp execOp
    simp only [ho, hx, hy, Instr.storeAt, Instr.sureAddr, Sem.run_bind, Sem.run_pure, Result.andThen_ok, run_storeVar_sub w g off t ty X cs hg hi hs h1]
    exact hK _ _ h
end
theorem splice_go {x : Go} (B B' : Option Addr) (d d' : Nat) (u : Th) (h : x.th.regs.length = 8) (hu : u.regs.length = 8) : splice (goArr x B d) 0 (thArr u B' d') = goArr { x with th := u } B' d' := by
  have h1 := thArr_size B d h
  have h2 := thArr_size B' d' hu
  unfold splice goArr
  rw [h2]
  congr 1
  simp [h1]
section
variable {w : World} {m gm : Nat} {F : Option Addr} {fc : Nat} {fs : List Fn} {M : Md} {ps : List Nat} {L : Option Addr} {c : Nat} {Bs : List (Option Addr × Nat)}
theorem Tryd.infoPr1 (x : Value) : (Tryd.prog.info? 24).map (·.size) = some (#[x] : Array Value).size := by kernel_rfl
theorem MdIs.thAt (h : MdIs w m gm F fc fs M ps L c Bs) {k p : Nat} (hk : k < M.l.length) (hp : ps[k]? = some p) : ∃ B d, Blk w p 68 (goArr (goAt M k) B d) ∧ ThOk w w.heap.size (goAt M k).th B d ∧ fitsT fs (goAt M k).th = true ∧ (goAt M k).th.stack.length ≤ 40 := by
  have hlp := h.lp
  have hpk : ps[k]'(by omega) = p := by
    rw [List.getElem?_eq_getElem (by omega)] at hp
    injection hp
  have h1 := h.mem k hk
  rw [hpk, ← goAt_eq hk] at h1
  exact ⟨_, _, h1, by rw [goAt_eq hk]; exact h.th k hk, by rw [goAt_eq hk]; exact h.fits k hk, by rw [goAt_eq hk]; exact h.stk k hk⟩
/-- The thread is stored, it has begun nothing. -/
theorem com_store (h : MdIs w m gm F fc fs M ps L c Bs) (hs : m ≤ w.heap.size) {k p : Nat} (hk : k < M.l.length) (hp : ps[k]? = some p) {B1 : Option Addr} {d1 : Nat} (hb : Blk w p 68 (goArr (goAt M k) B1 d1)) (hr : (goAt M k).th.regs.length = 8) (u : Th) (B' : Option Addr) (d' : Nat) (ht : ThOk w w.heap.size u B' d')
    (hfar : u.stack ≠ [] → ∀ b, ob B' = some b → b ≠ gm ∧ b ∉ ps ∧ ob L ≠ some b) (hfit : fitsT fs u = true) (hst : u.stack.length ≤ 40) :
    MdIs ((w.setRow p (splice (goArr (goAt M k) B1 d1) 0 (thArr u B' d'))).setCell ⟨p, 15, none⟩ (.bool false)) m gm F fc fs { M with l := M.l.set k { goAt M k with th := u, beg := false } } ps L c (Bs.set k (B', d')) ∧ Mv [p] w ((w.setRow p (splice (goArr (goAt M k) B1 d1) 0 (thArr u B' d'))).setCell ⟨p, 15, none⟩ (.bool false)) := by
  have hv : Mv [p] w ((w.setRow p (splice (goArr (goAt M k) B1 d1) 0 (thArr u B' d'))).setCell ⟨p, 15, none⟩ (.bool false)) := ((Mv.refl _ _).setRow p _ (by simp)).set _ _ (by simp)
  refine ⟨h.setGo hs hk hp { goAt M k with th := u, beg := false } B' d' hv ?_ (thok_mv ht hv (fun hx b hb' => ?_)) hfar hfit hst, hv⟩
  · have h1 := (hb.setRow (splice (goArr (goAt M k) B1 d1) 0 (thArr u B' d'))).set_ 15 (.bool false)
    rw [splice_go B1 B' d1 d' u hr ht.regs] at h1 ⊢
    rw [(goArr_flag { goAt M k with th := u } B' d' ht.regs false).2.2.2] at h1
    exact h1
  · rw [List.mem_singleton]
    intro e
    exact (hfar hx b hb').2.1 (e ▸ List.mem_of_getElem? hp)
/-- What is known behind the deed, and what comes of the stores. -/
theorem com_mid (h : MdIs w m gm F fc fs M ps L c Bs) (hs : m ≤ w.heap.size) {k p q : Nat} (hk : k < M.l.length) (hp : ps[k]? = some p) {X w3 : World} (hX : Below w.heap.size w X) {u : Th} {B' : Option Addr} {d' : Nat} (hq : Blk X q 56 (thArr u B' d')) (hql : w.heap.size ≤ q) (ht : ThOk X X.heap.size u B' d') (hfr : ∀ b, ob B' = some b → w.heap.size ≤ b)
    (hfit : fitsT fs u = true) (hst : u.stack.length ≤ 40) {M' : Md} (hd : DoneD m gm F fc fs M' ps L Bs X w3) :
    ∃ B1 d1, Blk w3 p 68 (goArr (goAt M' k) B1 d1) ∧ (goAt M' k).th.regs.length = 8 ∧ Blk w3 q 56 (thArr u B' d') ∧ p ≠ q ∧
      DoneD m gm F fc fs { M' with l := M'.l.set k { goAt M' k with th := u, beg := false } } ps L Bs w ((w3.setRow p (splice (goArr (goAt M' k) B1 d1) 0 (thArr u B' d'))).setCell ⟨p, 15, none⟩ (.bool false)) := by
  obtain ⟨ex, L', c', Bs', hM, hex, hL, hv, hOB⟩ := hd
  have hlp := h.lp
  have hlp' := hM.lp
  have hpl := h.pl
  have hLl := h.Ll
  have hgl := h.head.lt
  have hpm : p ∈ ps := List.mem_of_getElem? hp
  have hin : ∀ b, w.heap.size ≤ b → b ∉ gm :: (ps ++ (ob L).toList) := by
    intro b hb hc
    rcases List.mem_cons.1 hc with e | hc
    · omega
    · rcases List.mem_append.1 hc with hc | hc
      · have := hpl b hc
        omega
      · have := hLl b (Option.mem_toList.1 hc)
        omega
  have hk' : k < M'.l.length := by rw [← hlp', List.length_append]; omega
  have hp' : (ps ++ ex)[k]? = some p := by rw [List.getElem?_append_left (by omega)]; exact hp
  obtain ⟨B1, d1, hb, hth, -, -⟩ := hM.thAt hk' hp'
  have hs3 : m ≤ w3.heap.size := Nat.le_trans hs (Nat.le_trans hX.size hv.size)
  have ht3 : ThOk w3 w3.heap.size u B' d' := thok_mv ht hv (fun _ b hb => hin b (hfr b hb))
  have hfar : u.stack ≠ [] → ∀ b, ob B' = some b → b ≠ gm ∧ b ∉ ps ++ ex ∧ ob L' ≠ some b := by
    intro hx b hb
    have h1 := hfr b hb
    have h2 := thok_lt ht hx b hb
    have h3 := hin b h1
    refine ⟨by omega, ?_, ?_⟩
    · intro hc
      rcases List.mem_append.1 hc with hc | hc
      · have := hpl b hc
        omega
      · have := hex b hc
        omega
    · intro hc
      rcases hL with e | ⟨b2, e, h4⟩
      · rw [e] at hc
        have := hLl b hc
        omega
      · rw [e] at hc
        injection hc with hc
        omega
  obtain ⟨hN, hv2⟩ := com_store hM hs3 hk' hp' hb hth.regs u B' d' ht3 hfar hfit hst
  refine ⟨B1, d1, hb, hth.regs, hv.blk hq (hin q hql), fun e => ?_, ex, L', c', _, hN, fun x hx => Nat.le_trans hX.size (hex x hx), ?_, ?_, ?_⟩
  · have := hpl p hpm
    omega
  · rcases hL with e | ⟨b2, e, h4⟩
    · exact .inl e
    · exact .inr ⟨b2, e, Nat.le_trans hX.size h4⟩
  · exact ((Mv.of_below hX (Nat.le_refl _)).trans hv).trans (hv2.mono (fun b hb _ => by
      rw [List.mem_singleton] at hb
      rw [hb]
      simp [hpm]))
  · intro p' hp' b hb
    rcases List.mem_or_eq_of_mem_set hp' with h1 | h1
    · rcases hOB p' h1 b hb with h2 | h2
      · exact .inl h2
      · exact .inr (Nat.le_trans hX.size h2)
    · rw [h1] at hb
      exact .inr (hfr b hb)
theorem done_gone {W1 W2 : World} {M3 : Md} {ex : List Nat} {L' : Option Addr} {c' : Nat} {Bs' : List (Option Addr × Nat)} (hex : ∀ x ∈ ex, w.heap.size ≤ x) (hL : ob L' = ob L ∨ ∃ b, ob L' = some b ∧ w.heap.size ≤ b) (hv : Mv (gm :: (ps ++ (ob L).toList)) w W1)
    (hN : MdIs W2 m gm F fc fs M3 (ps ++ ex) L' c' Bs') (hv2 : Mv [gm] W1 W2) (hOB : OldB w.heap.size Bs Bs') : DoneD m gm F fc fs M3 ps L Bs w W2 :=
  ⟨ex, L', c', Bs', hN, hex, hL, hv.trans (hv2.mono (fun b hb _ => by
    rw [List.mem_singleton] at hb
    simp [hb])), hOB⟩
set_option maxRecDepth 10000 in
set_option maxHeartbeats 2000000 in
theorem commit_any (h : MdIs w m gm F fc fs M ps L c Bs) (hs : m ≤ w.heap.size) (hT : Tab w) {k p : Nat} (hk : k < M.l.length) (hp : ps[k]? = some p) (g : Int) (i : Ins) (a : Nat) (ha : i.a = a) (ha8 : a < 8) (hfit : i.op = 10 → ∀ x, fitsT fs (newTh i.n x) = true) (hgs : M.gs ≤ 100) (n : Int) :
    Calls Tryd.prog 32 #[.pointer (some ⟨gm, 0, none⟩), .int .i64 g, .pointer (some ⟨p, 0, none⟩), .agg (insArr i), .int .i64 n] w fun e w' => e = .returned (.int .i64 (if (commitP fs M g k i n).2 = true then 0 else 9)) ∧ DoneD m gm F fc fs (commitP fs M g k i n).1 ps L Bs w w' := by
  obtain ⟨W, HW⟩ : ∃ W, Hid (W = (w.alloc (.cells (insArr i) 64)).alloc (.cells (deedArr gm g p i 0 51 #[]) 92)) := ⟨_, Lib.hid rfl⟩
  obtain ⟨gd, HGD⟩ : ∃ q, Hid (q = w.heap.size + 1) := ⟨_, Lib.hid rfl⟩
  have HBW := Lib.hid (show Below w.heap.size w W by rw [HW.out]; exact ((Below.refl w.heap.size w).alloc (Nat.le_refl _) _).alloc (by rw [World.size_alloc]; omega) _)
  have HD := Lib.hid (show Blk W gd 92 (deedArr gm g p i 0 51 #[]) by rw [HW.out, HGD.out, show w.heap.size + 1 = (w.alloc (.cells (insArr i) 64)).heap.size by rw [World.size_alloc]]; exact Blk.new _ _ _)
  have HI0 := Lib.hid (show Blk W w.heap.size 64 (insArr i) by rw [HW.out]; exact (Blk.new w _ _).below ((Below.refl (w.alloc (.cells (insArr i) 64)).heap.size _).alloc (Nat.le_refl _) _) (Blk.new w _ _).lt)
  have i0 : W.cell? ⟨w.heap.size, 0, none⟩ = some (.int .i64 i.op) := (HI0.out.cell 0).trans rfl
  have HDA := Lib.hid (deed_any h hs hk hp g i a ha ha8 hfit hgs HD.out (by rw [HGD.out]; omega) HBW.out)
  have HM := Lib.hid h
  have HS := Lib.hid hs
  have HT := Lib.hid hT
  have HKP := Lib.hid (And.intro hk hp)
  have HHOW := Lib.hid (how_any i.op W)
  clear h hs hT hk hp ha ha8 hfit hgs
  obtain ⟨rv, HRV⟩ : ∃ rv : Int, Hid (rv = if (commitP fs M g k i n).2 = true then 0 else 9) := ⟨_, Lib.hid rfl⟩
  rw [← HRV.out]
  have hw := HW.out
  unfold insArr deedArr at hw
  have hneq : ∀ (f : Nat) (w : World), (binOp .neq 93 (.func (.func f) #[] #[]) .nilFunc).run Tryd.prog w = .ok (.bool true) w := fun f w => by kernel_rfl
  have hneq0 : ∀ (w : World), (binOp .neq 93 .nilFunc .nilFunc).run Tryd.prog w = .ok (.bool false) w := fun w => by kernel_rfl
  rcases HDA.out with ⟨hf, ho⟩ | ⟨f, hf, ho⟩
  · have HO := Lib.hid ho
    have hv : howV i.op = .nilFunc := by unfold howV; rw [hf]
    rw [hv] at HHOW
    clear ho hf hv HDA
    go_enter Tryd.func32, Tryd.ntmps32
    unfold insArr
    go_wp2_with fail
    rw [← hw, ← HGD.out]
    refine HHOW.out.mono ?_
    rintro e w1 ⟨rfl, rfl⟩
    go_wp2_with fail
    rw [← hw]
    obtain ⟨V, HVE⟩ : ∃ V, Hid (V = W) := ⟨_, Lib.hid rfl⟩
    rw [← HVE.out] at HO ⊢
    obtain ⟨fid, caps, hgf2, hbD, hbel, hcl⟩ := HO.out
    have HBV := Lib.hid hbel
    have HDV := Lib.hid hbD
    have HCL := Lib.hid hcl
    have hcf2 := run_goFn hgf2
    have HMV := Lib.hid (HM.out.step hbel HS.out)
    obtain ⟨Bt, dt, hbt, htt, hft, hst⟩ := HMV.out.thAt HKP.out.1 HKP.out.2
    obtain ⟨ans, HANS⟩ : ∃ x, Hid (x = (deedP M g k i).1) := ⟨_, Lib.hid rfl⟩
    have A8 : ∀ w', SB27 V w' → w'.cell? ⟨gd, 8, none⟩ = some (.int .i64 ans) := fun w' h => by rw [HANS.out]; exact h.cell HDV.out rfl
    have LP : ∀ w', SB27 V w' → (loadVar 24 ⟨gm, 0, none⟩).run Tryd.prog w' = .ok (.agg #[.slice F fs.length fc]) w' := fun w' h => run_loadVar_cells w' gm 0 _ _ _ (fun j v hv => by
      have hj : j = 0 := by
        have := (Array.getElem?_eq_some_iff.1 hv).1
        simp at this
        omega
      subst hj
      rw [← hv]
      exact h.cell HMV.out.head rfl) Tryd.underlying24 rfl (Tryd.infoPr1 _)
    have LT : ∀ w', SB27 V w' → (loadVar 56 ⟨p, 0, none⟩).run Tryd.prog w' = .ok (.agg (thArr (goAt M k).th Bt dt)) w' := fun w' h => run_loadVar_cells w' p 0 _ _ _ (fun j v hv => by
      have hj : j < 12 := by
        have := (Array.getElem?_eq_some_iff.1 hv).1
        rw [thArr_size Bt dt htt.regs] at this
        exact this
      rw [Nat.zero_add]
      exact h.cell hbt ((goArr_th _ Bt dt htt.regs j hj).trans hv)) Tryd.underlying56 rfl (by rw [thArr_size Bt dt htt.regs]; exact Tryd.infoTh)
    have HDO := Lib.hid (fun (W' : World) (hW' : Below V.heap.size V W') => vmDo_any (goAt M k).th F Bt fc dt fs ans W' (HT.out.step (hbel.trans (hW'.mono hbel.size))) HM.out.prog.2 (((HM.out.prog.1.more HS.out).below (hbel.trans (hW'.mono hbel.size))).more (Nat.le_trans hbel.size hW'.size)) (htt.step hW') hft (by omega))
    have HFT := Lib.hid (And.intro (fits_step ans hft) (step_small12 fs (goAt M k).th ans hst hft))
    have HVD := Lib.hid (show SB27 V V.drew from (Below.refl _ V).drew)
    clear hgf2 hbD hbel hcl hbt htt hft hst
    obtain ⟨u, told, bo, HSE⟩ : ∃ u told bo, Hid (stepT fs (goAt M k).th ans = (u, told, bo)) := ⟨_, _, _, Lib.hid rfl⟩
    rw [HSE.out] at HDO HFT
    refine region_tree (SB27 V) (.two [0, 1, 2, 3, 4, 5, 6, 7, 8, 9, 10, 11] 12 (.one [13, 14, 15, 16] 17 (.one [] 18 (.fin [19, 20]))) 17 (.one [] 12 (.one [13, 14, 15, 16] 18 (.fin [19, 20])))) (by kernel_rfl) (by kernel_rfl) (by kernel_rfl) (fun _ _ d _ _ h => by cases d <;> exact h) HVD.out ?_
    (try simp only [Act.put, List.setIfInBounds_toArray, List.set_cons_zero, List.set_cons_succ]); refine tree_two ?_; simp only [pickOps, List.getElem?_toArray, List.getElem?_cons_zero, List.getElem?_cons_succ]; (repeat (first | (refine quiet_load_at (by rfl) 24 _ rfl ⟨gm, 0, none⟩ rfl #[.slice F fs.length fc] LP ?_; simp only [Act.put, List.setIfInBounds_toArray, List.set_cons_zero, List.set_cons_succ]) | (refine quiet_load_at (by rfl) 56 _ rfl ⟨p, 0, none⟩ rfl (thArr (goAt M k).th Bt dt) LT ?_; simp only [Act.put, List.setIfInBounds_toArray, List.set_cons_zero, List.set_cons_succ]) | go_big_quiet_skip | (go_big_quiet_want; first | (go_big_quiet_op; first | go_big_quiet_on | ((first | with_reducible refine ⟨_, fun _ _ => rfl, ?_⟩); go_big_quiet_on)) | (simp (contextual := true) [go_sem, A8]; with_reducible refine ⟨_, fun _ _ => rfl, ?_⟩; go_big_quiet_on)))); refine wpQuiet_nil ?_
    clear A8 LP LT
    refine ⟨?_, ?_⟩
    · go_wp2_with (go_at_call 53; refine (HDO.out _ HVD.out).mono ?_; rintro e w2 ⟨B', d', rfl, hth2, hfr2, hb2⟩)
      have HB2 := Lib.hid (show SB27 V w2 from HVD.out.trans (hb2.mono HVD.out.size))
      have HT2 := Lib.hid hth2
      have HFR2 := Lib.hid (show ∀ b, ob B' = some b → V.heap.size ≤ b from hfr2)
      have HZ0 := Lib.hid (show (Tryd.prog.info? 56).map (·.size) = some (thArr u B' d').size by rw [thArr_size B' d' hth2.regs]; exact Tryd.infoTh)
      have HZ1 := Lib.hid (show (12 : Nat) = (thArr u B' d').size from (thArr_size B' d' hth2.regs).symm)
      clear hth2 hfr2 hb2
      refine ⟨SB27 V, HB2.out, fun _ h => h, ?_⟩
      (try simp only [Act.put, List.setIfInBounds_toArray, List.set_cons_zero, List.set_cons_succ]); refine tree_one ?_; simp only [pickOps, List.getElem?_toArray, List.getElem?_cons_zero, List.getElem?_cons_succ]; (repeat (first | go_big_quiet_skip | (go_big_quiet_want; first | (go_big_quiet_op; first | go_big_quiet_on | ((first | with_reducible refine ⟨_, fun _ _ => rfl, ?_⟩); go_big_quiet_on)) | (simp (contextual := true) [go_sem, HVD]; with_reducible refine ⟨_, fun _ _ => rfl, ?_⟩; go_big_quiet_on)))); refine wpQuiet_nil ?_
      go_wp2_with fail
      refine ⟨SB27 V, HB2.out.alloc HB2.out.size _, fun _ h => h, ?_⟩
      (try simp only [Act.put, List.setIfInBounds_toArray, List.set_cons_zero, List.set_cons_succ]); refine tree_one ?_; simp only [pickOps, List.getElem?_toArray, List.getElem?_cons_zero, List.getElem?_cons_succ]; (repeat (first | go_big_quiet_skip | (go_big_quiet_want; first | (go_big_quiet_op; first | go_big_quiet_on | ((first | with_reducible refine ⟨_, fun _ _ => rfl, ?_⟩); go_big_quiet_on)) | (simp (contextual := true) [go_sem, HVD]; with_reducible refine ⟨_, fun _ _ => rfl, ?_⟩; go_big_quiet_on)))); refine wpQuiet_nil ?_
      go_wp2_with (refine wpList_store_row rfl 56 _ _ rfl w2.heap.size (thArr u B' d') rfl rfl 56 _ (Blk.new w2 _ _) HZ0.out HZ1.out (thArr_one u B' d') ?_)
      obtain ⟨X, HX⟩ : ∃ X, Hid (X = (w2.alloc (.cells #[.int .i64 0, .int .i64 0, .int .i64 0, .int .i64 0, .int .i64 0, .int .i64 0, .int .i64 0, .int .i64 0, .int .i64 0, .int .i64 0, .slice none 0 0, .bool false] 56)).setRow w2.heap.size (thArr u B' d')) := ⟨_, Lib.hid rfl⟩
      obtain ⟨q, HQE⟩ : ∃ q, Hid (q = w2.heap.size) := ⟨_, Lib.hid rfl⟩
      have HBX := Lib.hid (show SB27 V X by rw [HX.out]; exact below_setRow (HB2.out.alloc HB2.out.size _) HB2.out.size (HB2.out.alloc HB2.out.size _).size _)
      have HQX := Lib.hid (show Blk X q 56 (thArr u B' d') by rw [HX.out, HQE.out]; exact (Blk.new w2 _ _).setRow _)
      have HQL := Lib.hid (show V.heap.size ≤ q by rw [HQE.out]; exact HB2.out.size)
      have HTX := Lib.hid (show ThOk X X.heap.size u B' d' by
        have hb := below_setRow ((Below.refl w2.heap.size w2).alloc (Nat.le_refl _) (.cells #[.int .i64 0, .int .i64 0, .int .i64 0, .int .i64 0, .int .i64 0, .int .i64 0, .int .i64 0, .int .i64 0, .int .i64 0, .int .i64 0, .slice none 0 0, .bool false] 56)) (Nat.le_refl _) (by rw [World.size_alloc]; omega) (thArr u B' d')
        rw [HX.out]
        exact HT2.out.step hb)
      rw [← HX.out, ← HQE.out]
      refine ⟨SB27 V, HBX.out, fun _ h => h, ?_⟩
      (try simp only [Act.put]); refine tree_fin ?_; simp only [pickOps, List.getElem?_toArray, List.getElem?_cons_zero, List.getElem?_cons_succ]; (repeat (first | go_big_quiet_skip | (go_big_quiet_want; first | (go_big_quiet_op; first | go_big_quiet_on | ((first | with_reducible refine ⟨_, fun _ _ => rfl, ?_⟩); go_big_quiet_on)) | (simp (contextual := true) [go_sem, HVD]; with_reducible refine ⟨_, fun _ _ => rfl, ?_⟩; go_big_quiet_on)))); refine wpQuiet_nil ?_
      clear HX HQE HT2 HB2 HZ0 HZ1 HDO HVD
      by_cases hn : told = n
      · have HCP := Lib.hid (show commitP fs M g k i n = (if u.done = true then goneM { (deedP M g k i).2 with l := (deedP M g k i).2.l.set k { goAt (deedP M g k i).2 k with th := u, beg := false } } g else { (deedP M g k i).2 with l := (deedP M g k i).2.l.set k { goAt (deedP M g k i).2 k with th := u, beg := false } }, true) by
          unfold commitP
          simp only
          rw [← HANS.out, HSE.out]
          simp only
          rw [if_pos hn])
        have e1 : (told == n) = true := by simpa using hn
        have e2 : (told != n) = false := by simpa using hn
        have D9 : X.cell? ⟨gd, 9, none⟩ = some (.func (.func fid) #[] caps) := HBX.out.cell HDV.out rfl
        clear hn
        go_wp2_with fail
        refine (HCL.out X HBX.out).mono ?_
        rintro e w3 ⟨rfl, hd⟩
        obtain ⟨B1, d1, hb1, hr1, hq3, hpq, hdone⟩ := com_mid HM.out HS.out HKP.out.1 HKP.out.2 (HBV.out.trans (HBX.out.mono HBV.out.size)) HQX.out (Nat.le_trans HBV.out.size HQL.out) HTX.out (fun b hb => Nat.le_trans HBV.out.size (HFR2.out b hb)) HFT.out.1 HFT.out.2 hd
        have HB1 := Lib.hid hb1
        have HQ3 := Lib.hid hq3
        have HPQ := Lib.hid hpq
        obtain ⟨Y, HY⟩ : ∃ Y, Hid (Y = splice (goArr (goAt (deedP M g k i).2 k) B1 d1) 0 (thArr u B' d')) := ⟨_, Lib.hid rfl⟩
        obtain ⟨w4, HW4⟩ : ∃ w4, Hid (w4 = w3.setRow p Y) := ⟨_, Lib.hid rfl⟩
        rw [← HY.out, ← HW4.out] at hdone
        have HDN := Lib.hid hdone
        have HB4 := Lib.hid (show Blk w4 p 68 Y by rw [HW4.out]; exact hb1.setRow _)
        have HQ4 := Lib.hid (show Blk w4 q 56 (thArr u B' d') by rw [HW4.out]; exact hq3.farRow (Ne.symm hpq) _)
        have f15 := HB4.out.frozen 15
        have c15 : w4.cell? ⟨p, 15, none⟩ = some (.bool (goAt (deedP M g k i).2 k).beg) := (HB4.out.cell 15).trans (by rw [HY.out, splice_go B1 B' d1 d' u hr1 HTX.out.regs]; exact goArr_end _ _ _ HTX.out.regs 3)
        have q11 : (w4.setCell ⟨p, 15, none⟩ (.bool false)).cell? ⟨q, 11, none⟩ = some (.bool u.done) := ((HQ4.out.far (p := ⟨p, 15, none⟩) (Ne.symm hpq) _).cell 11).trans (thArr_11 _ _ HTX.out.regs)
        have HSZU := Lib.hid (show (Tryd.prog.info? 56).map (·.size) = some (thArr u B' d').size by rw [thArr_size B' d' HTX.out.regs]; exact Tryd.infoTh)
        have HSZ2 := Lib.hid (show 0 + (thArr u B' d').size ≤ (goArr (goAt (deedP M g k i).2 k) B1 d1).size by rw [thArr_size B' d' HTX.out.regs]; unfold goArr; simp [thArr_size B1 d1 hr1])
        clear hb1 hq3 hpq hdone hd hr1
        have Q4H := HQ4.out
        cases hud : u.done with
        | false =>
          rw [hud] at q11
          have HUD := Lib.hid hud
          clear hud
          go_wp2_with (first | (refine wpList_load_rowW (by rfl) 56 _ rfl q rfl 56 (thArr u B' d') (0, 0) _ HQ3.out Tryd.underlying56 rfl HSZU.out ?_) | (refine wpList_store_sub rfl 56 _ _ rfl p 0 (thArr u B' d') rfl rfl 68 _ HB1.out HSZU.out HSZ2.out (thArr_one u B' d') ?_; rw [← HY.out, ← HW4.out]))
          go_ret
          rw [HRV.out, HCP.out]
          exact ⟨rfl, by rw [if_neg (by rw [HUD.out]; decide)]; exact HDN.out⟩
        | true =>
          rw [hud] at q11
          have HUD := Lib.hid hud
          clear hud
          obtain ⟨ex, L', c', Bs', hN, hex, hL, hv, hOB⟩ := HDN.out
          have HGN := Lib.hid (gone_any hN (Nat.le_trans HS.out hv.size) g)
          have HX := Lib.hid (And.intro hex (And.intro hL hv))
          have HOB := Lib.hid hOB
          clear hN hex hL hv hOB
          go_wp2_with (first | (refine wpList_load_rowW (by rfl) 56 _ rfl q rfl 56 (thArr u B' d') (0, 0) _ HQ3.out Tryd.underlying56 rfl HSZU.out ?_) | (refine wpList_store_sub rfl 56 _ _ rfl p 0 (thArr u B' d') rfl rfl 68 _ HB1.out HSZU.out HSZ2.out (thArr_one u B' d') ?_; rw [← HY.out, ← HW4.out]) | (go_at_call 54; refine HGN.out.mono ?_; rintro e w5 ⟨rfl, hm5, hv5⟩))
          go_ret
          rw [HRV.out, HCP.out]
          exact ⟨rfl, by rw [if_pos HUD.out]; show DoneD m gm F fc fs (goneM _ g) ps L Bs w _; exact done_gone HX.out.1 HX.out.2.1 HX.out.2.2 hm5 hv5 HOB.out⟩
      · have HCP := Lib.hid (show commitP fs M g k i n = (M, false) by
          unfold commitP
          simp only
          rw [← HANS.out, HSE.out]
          simp only
          rw [if_neg hn])
        have e1 : (told == n) = false := by simpa using hn
        have e2 : (told != n) = true := by simpa using hn
        have HDN := Lib.hid (doneD_same (HM.out.step (HBV.out.trans (HBX.out.mono HBV.out.size)) HS.out) (Mv.of_below (L := []) (HBV.out.trans (HBX.out.mono HBV.out.size)) (Nat.le_refl _)) (by simp))
        clear hn
        go_wp2_with fail
        go_ret
        rw [HRV.out, HCP.out]
        exact ⟨rfl, HDN.out⟩
    · go_wp2_with fail
      obtain ⟨VA, HVA⟩ : ∃ X, Hid (X = (V.alloc (.cells #[.int .i64 0, .int .i64 0, .int .i64 0, .int .i64 0, .int .i64 0, .int .i64 0, .int .i64 0, .int .i64 0, .int .i64 0, .int .i64 0, .slice none 0 0, .bool false] 56)).drew) := ⟨_, Lib.hid rfl⟩
      obtain ⟨q, HQE⟩ : ∃ q, Hid (q = V.heap.size) := ⟨_, Lib.hid rfl⟩
      have HBA := Lib.hid (show SB27 V VA by rw [HVA.out]; exact ((Below.refl V.heap.size V).alloc (Nat.le_refl _) _).drew)
      have HQA := Lib.hid (show Blk VA q 56 #[.int .i64 0, .int .i64 0, .int .i64 0, .int .i64 0, .int .i64 0, .int .i64 0, .int .i64 0, .int .i64 0, .int .i64 0, .int .i64 0, .slice none 0 0, .bool false] by rw [HVA.out, HQE.out]; exact (Blk.new V _ _).drew)
      have HQL := Lib.hid (show V.heap.size ≤ q by rw [HQE.out]; exact Nat.le_refl _)
      rw [← HVA.out, ← HQE.out]
      refine ⟨SB27 V, HBA.out, fun _ h => h, ?_⟩
      (try simp only [Act.put, List.setIfInBounds_toArray, List.set_cons_zero, List.set_cons_succ]); refine tree_one ?_; simp only [pickOps, List.getElem?_toArray]; (repeat (first | go_big_quiet_skip | (go_big_quiet_want; first | (go_big_quiet_op; first | go_big_quiet_on | ((first | with_reducible refine ⟨_, fun _ _ => rfl, ?_⟩); go_big_quiet_on)) | (simp (contextual := true) [go_sem, HVD]; with_reducible refine ⟨_, fun _ _ => rfl, ?_⟩; go_big_quiet_on)))); refine wpQuiet_nil ?_
      go_wp2_with (go_at_call 53; refine (HDO.out _ HBA.out).mono ?_; rintro e w2 ⟨B', d', rfl, hth2, hfr2, hb2⟩)
      have HB2 := Lib.hid (show SB27 V w2 from HBA.out.trans (hb2.mono HBA.out.size))
      have HQ2 := Lib.hid (HQA.out.below hb2 HQA.out.lt)
      have HT2 := Lib.hid hth2
      have HFR2 := Lib.hid (show ∀ b, ob B' = some b → V.heap.size ≤ b from fun b hb => Nat.le_trans HBA.out.size (hfr2 b hb))
      have HFQ := Lib.hid (show ∀ b, ob B' = some b → b ≠ q from fun b hb e => by
        have h1 := hfr2 b hb
        have h2 := HQA.out.lt
        omega)
      have HZ0 := Lib.hid (show (Tryd.prog.info? 56).map (·.size) = some (thArr u B' d').size by rw [thArr_size B' d' hth2.regs]; exact Tryd.infoTh)
      have HZ1 := Lib.hid (show (12 : Nat) = (thArr u B' d').size from (thArr_size B' d' hth2.regs).symm)
      clear hth2 hfr2 hb2
      refine ⟨SB27 V, HB2.out, fun _ h => h, ?_⟩
      (try simp only [Act.put, List.setIfInBounds_toArray, List.set_cons_zero, List.set_cons_succ]); refine tree_one ?_; simp only [pickOps, List.getElem?_toArray, List.getElem?_cons_zero, List.getElem?_cons_succ]; (repeat (first | go_big_quiet_skip | (go_big_quiet_want; first | (go_big_quiet_op; first | go_big_quiet_on | ((first | with_reducible refine ⟨_, fun _ _ => rfl, ?_⟩); go_big_quiet_on)) | (simp (contextual := true) [go_sem, HVD]; with_reducible refine ⟨_, fun _ _ => rfl, ?_⟩; go_big_quiet_on)))); refine wpQuiet_nil ?_
      go_wp2_with (refine wpList_store_row rfl 56 _ _ rfl q (thArr u B' d') rfl rfl 56 _ HQ2.out HZ0.out HZ1.out (thArr_one u B' d') ?_)
      obtain ⟨X, HX⟩ : ∃ X, Hid (X = w2.setRow q (thArr u B' d')) := ⟨_, Lib.hid rfl⟩
      have HBX := Lib.hid (show SB27 V X by rw [HX.out]; exact below_setRow HB2.out HQL.out HB2.out.size _)
      have HQX := Lib.hid (show Blk X q 56 (thArr u B' d') by rw [HX.out]; exact HQ2.out.setRow _)
      have HTX := Lib.hid (show ThOk X X.heap.size u B' d' by
        rw [HX.out]
        exact thok_mv HT2.out (((Mv.refl [q] w2).setRow q _ (by simp))) (fun _ b hb => by have := HFQ.out b hb; simpa using this))
      rw [← HX.out]
      refine ⟨SB27 V, HBX.out, fun _ h => h, ?_⟩
      (try simp only [Act.put]); refine tree_fin ?_; simp only [pickOps, List.getElem?_toArray, List.getElem?_cons_zero, List.getElem?_cons_succ]; (repeat (first | go_big_quiet_skip | (go_big_quiet_want; first | (go_big_quiet_op; first | go_big_quiet_on | ((first | with_reducible refine ⟨_, fun _ _ => rfl, ?_⟩); go_big_quiet_on)) | (simp (contextual := true) [go_sem, HVD]; with_reducible refine ⟨_, fun _ _ => rfl, ?_⟩; go_big_quiet_on)))); refine wpQuiet_nil ?_
      clear HX HQE HT2 HB2 HZ0 HZ1 HDO HVD HQ2 HFQ HBA HQA HVA
      by_cases hn : told = n
      · have HCP := Lib.hid (show commitP fs M g k i n = (if u.done = true then goneM { (deedP M g k i).2 with l := (deedP M g k i).2.l.set k { goAt (deedP M g k i).2 k with th := u, beg := false } } g else { (deedP M g k i).2 with l := (deedP M g k i).2.l.set k { goAt (deedP M g k i).2 k with th := u, beg := false } }, true) by
          unfold commitP
          simp only
          rw [← HANS.out, HSE.out]
          simp only
          rw [if_pos hn])
        have e1 : (told == n) = true := by simpa using hn
        have e2 : (told != n) = false := by simpa using hn
        have D9 : X.cell? ⟨gd, 9, none⟩ = some (.func (.func fid) #[] caps) := HBX.out.cell HDV.out rfl
        clear hn
        go_wp2_with fail
        refine (HCL.out X HBX.out).mono ?_
        rintro e w3 ⟨rfl, hd⟩
        obtain ⟨B1, d1, hb1, hr1, hq3, hpq, hdone⟩ := com_mid HM.out HS.out HKP.out.1 HKP.out.2 (HBV.out.trans (HBX.out.mono HBV.out.size)) HQX.out (Nat.le_trans HBV.out.size HQL.out) HTX.out (fun b hb => Nat.le_trans HBV.out.size (HFR2.out b hb)) HFT.out.1 HFT.out.2 hd
        have HB1 := Lib.hid hb1
        have HQ3 := Lib.hid hq3
        have HPQ := Lib.hid hpq
        obtain ⟨Y, HY⟩ : ∃ Y, Hid (Y = splice (goArr (goAt (deedP M g k i).2 k) B1 d1) 0 (thArr u B' d')) := ⟨_, Lib.hid rfl⟩
        obtain ⟨w4, HW4⟩ : ∃ w4, Hid (w4 = w3.setRow p Y) := ⟨_, Lib.hid rfl⟩
        rw [← HY.out, ← HW4.out] at hdone
        have HDN := Lib.hid hdone
        have HB4 := Lib.hid (show Blk w4 p 68 Y by rw [HW4.out]; exact hb1.setRow _)
        have HQ4 := Lib.hid (show Blk w4 q 56 (thArr u B' d') by rw [HW4.out]; exact hq3.farRow (Ne.symm hpq) _)
        have f15 := HB4.out.frozen 15
        have c15 : w4.cell? ⟨p, 15, none⟩ = some (.bool (goAt (deedP M g k i).2 k).beg) := (HB4.out.cell 15).trans (by rw [HY.out, splice_go B1 B' d1 d' u hr1 HTX.out.regs]; exact goArr_end _ _ _ HTX.out.regs 3)
        have q11 : (w4.setCell ⟨p, 15, none⟩ (.bool false)).cell? ⟨q, 11, none⟩ = some (.bool u.done) := ((HQ4.out.far (p := ⟨p, 15, none⟩) (Ne.symm hpq) _).cell 11).trans (thArr_11 _ _ HTX.out.regs)
        have HSZU := Lib.hid (show (Tryd.prog.info? 56).map (·.size) = some (thArr u B' d').size by rw [thArr_size B' d' HTX.out.regs]; exact Tryd.infoTh)
        have HSZ2 := Lib.hid (show 0 + (thArr u B' d').size ≤ (goArr (goAt (deedP M g k i).2 k) B1 d1).size by rw [thArr_size B' d' HTX.out.regs]; unfold goArr; simp [thArr_size B1 d1 hr1])
        clear hb1 hq3 hpq hdone hd hr1
        have Q4H := HQ4.out
        cases hud : u.done with
        | false =>
          rw [hud] at q11
          have HUD := Lib.hid hud
          clear hud
          go_wp2_with (first | (refine wpList_load_rowW (by rfl) 56 _ rfl q rfl 56 (thArr u B' d') (0, 0) _ HQ3.out Tryd.underlying56 rfl HSZU.out ?_) | (refine wpList_store_sub rfl 56 _ _ rfl p 0 (thArr u B' d') rfl rfl 68 _ HB1.out HSZU.out HSZ2.out (thArr_one u B' d') ?_; rw [← HY.out, ← HW4.out]))
          go_ret
          rw [HRV.out, HCP.out]
          exact ⟨rfl, by rw [if_neg (by rw [HUD.out]; decide)]; exact HDN.out⟩
        | true =>
          rw [hud] at q11
          have HUD := Lib.hid hud
          clear hud
          obtain ⟨ex, L', c', Bs', hN, hex, hL, hv, hOB⟩ := HDN.out
          have HGN := Lib.hid (gone_any hN (Nat.le_trans HS.out hv.size) g)
          have HX := Lib.hid (And.intro hex (And.intro hL hv))
          have HOB := Lib.hid hOB
          clear hN hex hL hv hOB
          go_wp2_with (first | (refine wpList_load_rowW (by rfl) 56 _ rfl q rfl 56 (thArr u B' d') (0, 0) _ HQ3.out Tryd.underlying56 rfl HSZU.out ?_) | (refine wpList_store_sub rfl 56 _ _ rfl p 0 (thArr u B' d') rfl rfl 68 _ HB1.out HSZU.out HSZ2.out (thArr_one u B' d') ?_; rw [← HY.out, ← HW4.out]) | (go_at_call 54; refine HGN.out.mono ?_; rintro e w5 ⟨rfl, hm5, hv5⟩))
          go_ret
          rw [HRV.out, HCP.out]
          exact ⟨rfl, by rw [if_pos HUD.out]; show DoneD m gm F fc fs (goneM _ g) ps L Bs w _; exact done_gone HX.out.1 HX.out.2.1 HX.out.2.2 hm5 hv5 HOB.out⟩
      · have HCP := Lib.hid (show commitP fs M g k i n = (M, false) by
          unfold commitP
          simp only
          rw [← HANS.out, HSE.out]
          simp only
          rw [if_neg hn])
        have e1 : (told == n) = false := by simpa using hn
        have e2 : (told != n) = true := by simpa using hn
        have HDN := Lib.hid (doneD_same (HM.out.step (HBV.out.trans (HBX.out.mono HBV.out.size)) HS.out) (Mv.of_below (L := []) (HBV.out.trans (HBX.out.mono HBV.out.size)) (Nat.le_refl _)) (by simp))
        clear hn
        go_wp2_with fail
        go_ret
        rw [HRV.out, HCP.out]
        exact ⟨rfl, HDN.out⟩
  · have HO0 := Lib.hid ho.2
    have hcf := run_goFn ho.1
    have hv : howV i.op = .func (.func f) #[] #[] := by unfold howV; rw [hf]
    rw [hv] at HHOW
    clear ho hf hv HDA
    go_enter Tryd.func32, Tryd.ntmps32
    unfold insArr
    go_wp2_with fail
    rw [← hw, ← HGD.out]
    refine HHOW.out.mono ?_
    rintro e w1 ⟨rfl, rfl⟩
    go_wp2_with fail
    rw [← hw]
    refine HO0.out.mono ?_
    rintro e V ⟨rfl, hov⟩
    have HO := Lib.hid hov
    clear hov
    go_wp2_with fail
    obtain ⟨fid, caps, hgf2, hbD, hbel, hcl⟩ := HO.out
    have HBV := Lib.hid hbel
    have HDV := Lib.hid hbD
    have HCL := Lib.hid hcl
    have hcf2 := run_goFn hgf2
    have HMV := Lib.hid (HM.out.step hbel HS.out)
    obtain ⟨Bt, dt, hbt, htt, hft, hst⟩ := HMV.out.thAt HKP.out.1 HKP.out.2
    obtain ⟨ans, HANS⟩ : ∃ x, Hid (x = (deedP M g k i).1) := ⟨_, Lib.hid rfl⟩
    have A8 : ∀ w', SB27 V w' → w'.cell? ⟨gd, 8, none⟩ = some (.int .i64 ans) := fun w' h => by rw [HANS.out]; exact h.cell HDV.out rfl
    have LP : ∀ w', SB27 V w' → (loadVar 24 ⟨gm, 0, none⟩).run Tryd.prog w' = .ok (.agg #[.slice F fs.length fc]) w' := fun w' h => run_loadVar_cells w' gm 0 _ _ _ (fun j v hv => by
      have hj : j = 0 := by
        have := (Array.getElem?_eq_some_iff.1 hv).1
        simp at this
        omega
      subst hj
      rw [← hv]
      exact h.cell HMV.out.head rfl) Tryd.underlying24 rfl (Tryd.infoPr1 _)
    have LT : ∀ w', SB27 V w' → (loadVar 56 ⟨p, 0, none⟩).run Tryd.prog w' = .ok (.agg (thArr (goAt M k).th Bt dt)) w' := fun w' h => run_loadVar_cells w' p 0 _ _ _ (fun j v hv => by
      have hj : j < 12 := by
        have := (Array.getElem?_eq_some_iff.1 hv).1
        rw [thArr_size Bt dt htt.regs] at this
        exact this
      rw [Nat.zero_add]
      exact h.cell hbt ((goArr_th _ Bt dt htt.regs j hj).trans hv)) Tryd.underlying56 rfl (by rw [thArr_size Bt dt htt.regs]; exact Tryd.infoTh)
    have HDO := Lib.hid (fun (W' : World) (hW' : Below V.heap.size V W') => vmDo_any (goAt M k).th F Bt fc dt fs ans W' (HT.out.step (hbel.trans (hW'.mono hbel.size))) HM.out.prog.2 (((HM.out.prog.1.more HS.out).below (hbel.trans (hW'.mono hbel.size))).more (Nat.le_trans hbel.size hW'.size)) (htt.step hW') hft (by omega))
    have HFT := Lib.hid (And.intro (fits_step ans hft) (step_small12 fs (goAt M k).th ans hst hft))
    have HVD := Lib.hid (show SB27 V V.drew from (Below.refl _ V).drew)
    clear hgf2 hbD hbel hcl hbt htt hft hst
    obtain ⟨u, told, bo, HSE⟩ : ∃ u told bo, Hid (stepT fs (goAt M k).th ans = (u, told, bo)) := ⟨_, _, _, Lib.hid rfl⟩
    rw [HSE.out] at HDO HFT
    refine region_tree (SB27 V) (.two [0, 1, 2, 3, 4, 5, 6, 7, 8, 9, 10, 11] 12 (.one [13, 14, 15, 16] 17 (.one [] 18 (.fin [19, 20]))) 17 (.one [] 12 (.one [13, 14, 15, 16] 18 (.fin [19, 20])))) (by kernel_rfl) (by kernel_rfl) (by kernel_rfl) (fun _ _ d _ _ h => by cases d <;> exact h) HVD.out ?_
    (try simp only [Act.put, List.setIfInBounds_toArray, List.set_cons_zero, List.set_cons_succ]); refine tree_two ?_; simp only [pickOps, List.getElem?_toArray, List.getElem?_cons_zero, List.getElem?_cons_succ]; (repeat (first | (refine quiet_load_at (by rfl) 24 _ rfl ⟨gm, 0, none⟩ rfl #[.slice F fs.length fc] LP ?_; simp only [Act.put, List.setIfInBounds_toArray, List.set_cons_zero, List.set_cons_succ]) | (refine quiet_load_at (by rfl) 56 _ rfl ⟨p, 0, none⟩ rfl (thArr (goAt M k).th Bt dt) LT ?_; simp only [Act.put, List.setIfInBounds_toArray, List.set_cons_zero, List.set_cons_succ]) | go_big_quiet_skip | (go_big_quiet_want; first | (go_big_quiet_op; first | go_big_quiet_on | ((first | with_reducible refine ⟨_, fun _ _ => rfl, ?_⟩); go_big_quiet_on)) | (simp (contextual := true) [go_sem, A8]; with_reducible refine ⟨_, fun _ _ => rfl, ?_⟩; go_big_quiet_on)))); refine wpQuiet_nil ?_
    clear A8 LP LT
    refine ⟨?_, ?_⟩
    · go_wp2_with (go_at_call 53; refine (HDO.out _ HVD.out).mono ?_; rintro e w2 ⟨B', d', rfl, hth2, hfr2, hb2⟩)
      have HB2 := Lib.hid (show SB27 V w2 from HVD.out.trans (hb2.mono HVD.out.size))
      have HT2 := Lib.hid hth2
      have HFR2 := Lib.hid (show ∀ b, ob B' = some b → V.heap.size ≤ b from hfr2)
      have HZ0 := Lib.hid (show (Tryd.prog.info? 56).map (·.size) = some (thArr u B' d').size by rw [thArr_size B' d' hth2.regs]; exact Tryd.infoTh)
      have HZ1 := Lib.hid (show (12 : Nat) = (thArr u B' d').size from (thArr_size B' d' hth2.regs).symm)
      clear hth2 hfr2 hb2
      refine ⟨SB27 V, HB2.out, fun _ h => h, ?_⟩
      (try simp only [Act.put, List.setIfInBounds_toArray, List.set_cons_zero, List.set_cons_succ]); refine tree_one ?_; simp only [pickOps, List.getElem?_toArray, List.getElem?_cons_zero, List.getElem?_cons_succ]; (repeat (first | go_big_quiet_skip | (go_big_quiet_want; first | (go_big_quiet_op; first | go_big_quiet_on | ((first | with_reducible refine ⟨_, fun _ _ => rfl, ?_⟩); go_big_quiet_on)) | (simp (contextual := true) [go_sem, HVD]; with_reducible refine ⟨_, fun _ _ => rfl, ?_⟩; go_big_quiet_on)))); refine wpQuiet_nil ?_
      go_wp2_with fail
      refine ⟨SB27 V, HB2.out.alloc HB2.out.size _, fun _ h => h, ?_⟩
      (try simp only [Act.put, List.setIfInBounds_toArray, List.set_cons_zero, List.set_cons_succ]); refine tree_one ?_; simp only [pickOps, List.getElem?_toArray, List.getElem?_cons_zero, List.getElem?_cons_succ]; (repeat (first | go_big_quiet_skip | (go_big_quiet_want; first | (go_big_quiet_op; first | go_big_quiet_on | ((first | with_reducible refine ⟨_, fun _ _ => rfl, ?_⟩); go_big_quiet_on)) | (simp (contextual := true) [go_sem, HVD]; with_reducible refine ⟨_, fun _ _ => rfl, ?_⟩; go_big_quiet_on)))); refine wpQuiet_nil ?_
      go_wp2_with (refine wpList_store_row rfl 56 _ _ rfl w2.heap.size (thArr u B' d') rfl rfl 56 _ (Blk.new w2 _ _) HZ0.out HZ1.out (thArr_one u B' d') ?_)
      obtain ⟨X, HX⟩ : ∃ X, Hid (X = (w2.alloc (.cells #[.int .i64 0, .int .i64 0, .int .i64 0, .int .i64 0, .int .i64 0, .int .i64 0, .int .i64 0, .int .i64 0, .int .i64 0, .int .i64 0, .slice none 0 0, .bool false] 56)).setRow w2.heap.size (thArr u B' d')) := ⟨_, Lib.hid rfl⟩
      obtain ⟨q, HQE⟩ : ∃ q, Hid (q = w2.heap.size) := ⟨_, Lib.hid rfl⟩
      have HBX := Lib.hid (show SB27 V X by rw [HX.out]; exact below_setRow (HB2.out.alloc HB2.out.size _) HB2.out.size (HB2.out.alloc HB2.out.size _).size _)
      have HQX := Lib.hid (show Blk X q 56 (thArr u B' d') by rw [HX.out, HQE.out]; exact (Blk.new w2 _ _).setRow _)
      have HQL := Lib.hid (show V.heap.size ≤ q by rw [HQE.out]; exact HB2.out.size)
      have HTX := Lib.hid (show ThOk X X.heap.size u B' d' by
        have hb := below_setRow ((Below.refl w2.heap.size w2).alloc (Nat.le_refl _) (.cells #[.int .i64 0, .int .i64 0, .int .i64 0, .int .i64 0, .int .i64 0, .int .i64 0, .int .i64 0, .int .i64 0, .int .i64 0, .int .i64 0, .slice none 0 0, .bool false] 56)) (Nat.le_refl _) (by rw [World.size_alloc]; omega) (thArr u B' d')
        rw [HX.out]
        exact HT2.out.step hb)
      rw [← HX.out, ← HQE.out]
      refine ⟨SB27 V, HBX.out, fun _ h => h, ?_⟩
      (try simp only [Act.put]); refine tree_fin ?_; simp only [pickOps, List.getElem?_toArray, List.getElem?_cons_zero, List.getElem?_cons_succ]; (repeat (first | go_big_quiet_skip | (go_big_quiet_want; first | (go_big_quiet_op; first | go_big_quiet_on | ((first | with_reducible refine ⟨_, fun _ _ => rfl, ?_⟩); go_big_quiet_on)) | (simp (contextual := true) [go_sem, HVD]; with_reducible refine ⟨_, fun _ _ => rfl, ?_⟩; go_big_quiet_on)))); refine wpQuiet_nil ?_
      clear HX HQE HT2 HB2 HZ0 HZ1 HDO HVD
      by_cases hn : told = n
      · have HCP := Lib.hid (show commitP fs M g k i n = (if u.done = true then goneM { (deedP M g k i).2 with l := (deedP M g k i).2.l.set k { goAt (deedP M g k i).2 k with th := u, beg := false } } g else { (deedP M g k i).2 with l := (deedP M g k i).2.l.set k { goAt (deedP M g k i).2 k with th := u, beg := false } }, true) by
          unfold commitP
          simp only
          rw [← HANS.out, HSE.out]
          simp only
          rw [if_pos hn])
        have e1 : (told == n) = true := by simpa using hn
        have e2 : (told != n) = false := by simpa using hn
        have D9 : X.cell? ⟨gd, 9, none⟩ = some (.func (.func fid) #[] caps) := HBX.out.cell HDV.out rfl
        clear hn
        go_wp2_with fail
        refine (HCL.out X HBX.out).mono ?_
        rintro e w3 ⟨rfl, hd⟩
        obtain ⟨B1, d1, hb1, hr1, hq3, hpq, hdone⟩ := com_mid HM.out HS.out HKP.out.1 HKP.out.2 (HBV.out.trans (HBX.out.mono HBV.out.size)) HQX.out (Nat.le_trans HBV.out.size HQL.out) HTX.out (fun b hb => Nat.le_trans HBV.out.size (HFR2.out b hb)) HFT.out.1 HFT.out.2 hd
        have HB1 := Lib.hid hb1
        have HQ3 := Lib.hid hq3
        have HPQ := Lib.hid hpq
        obtain ⟨Y, HY⟩ : ∃ Y, Hid (Y = splice (goArr (goAt (deedP M g k i).2 k) B1 d1) 0 (thArr u B' d')) := ⟨_, Lib.hid rfl⟩
        obtain ⟨w4, HW4⟩ : ∃ w4, Hid (w4 = w3.setRow p Y) := ⟨_, Lib.hid rfl⟩
        rw [← HY.out, ← HW4.out] at hdone
        have HDN := Lib.hid hdone
        have HB4 := Lib.hid (show Blk w4 p 68 Y by rw [HW4.out]; exact hb1.setRow _)
        have HQ4 := Lib.hid (show Blk w4 q 56 (thArr u B' d') by rw [HW4.out]; exact hq3.farRow (Ne.symm hpq) _)
        have f15 := HB4.out.frozen 15
        have c15 : w4.cell? ⟨p, 15, none⟩ = some (.bool (goAt (deedP M g k i).2 k).beg) := (HB4.out.cell 15).trans (by rw [HY.out, splice_go B1 B' d1 d' u hr1 HTX.out.regs]; exact goArr_end _ _ _ HTX.out.regs 3)
        have q11 : (w4.setCell ⟨p, 15, none⟩ (.bool false)).cell? ⟨q, 11, none⟩ = some (.bool u.done) := ((HQ4.out.far (p := ⟨p, 15, none⟩) (Ne.symm hpq) _).cell 11).trans (thArr_11 _ _ HTX.out.regs)
        have HSZU := Lib.hid (show (Tryd.prog.info? 56).map (·.size) = some (thArr u B' d').size by rw [thArr_size B' d' HTX.out.regs]; exact Tryd.infoTh)
        have HSZ2 := Lib.hid (show 0 + (thArr u B' d').size ≤ (goArr (goAt (deedP M g k i).2 k) B1 d1).size by rw [thArr_size B' d' HTX.out.regs]; unfold goArr; simp [thArr_size B1 d1 hr1])
        clear hb1 hq3 hpq hdone hd hr1
        have Q4H := HQ4.out
        cases hud : u.done with
        | false =>
          rw [hud] at q11
          have HUD := Lib.hid hud
          clear hud
          go_wp2_with (first | (refine wpList_load_rowW (by rfl) 56 _ rfl q rfl 56 (thArr u B' d') (0, 0) _ HQ3.out Tryd.underlying56 rfl HSZU.out ?_) | (refine wpList_store_sub rfl 56 _ _ rfl p 0 (thArr u B' d') rfl rfl 68 _ HB1.out HSZU.out HSZ2.out (thArr_one u B' d') ?_; rw [← HY.out, ← HW4.out]))
          go_ret
          rw [HRV.out, HCP.out]
          exact ⟨rfl, by rw [if_neg (by rw [HUD.out]; decide)]; exact HDN.out⟩
        | true =>
          rw [hud] at q11
          have HUD := Lib.hid hud
          clear hud
          obtain ⟨ex, L', c', Bs', hN, hex, hL, hv, hOB⟩ := HDN.out
          have HGN := Lib.hid (gone_any hN (Nat.le_trans HS.out hv.size) g)
          have HX := Lib.hid (And.intro hex (And.intro hL hv))
          have HOB := Lib.hid hOB
          clear hN hex hL hv hOB
          go_wp2_with (first | (refine wpList_load_rowW (by rfl) 56 _ rfl q rfl 56 (thArr u B' d') (0, 0) _ HQ3.out Tryd.underlying56 rfl HSZU.out ?_) | (refine wpList_store_sub rfl 56 _ _ rfl p 0 (thArr u B' d') rfl rfl 68 _ HB1.out HSZU.out HSZ2.out (thArr_one u B' d') ?_; rw [← HY.out, ← HW4.out]) | (go_at_call 54; refine HGN.out.mono ?_; rintro e w5 ⟨rfl, hm5, hv5⟩))
          go_ret
          rw [HRV.out, HCP.out]
          exact ⟨rfl, by rw [if_pos HUD.out]; show DoneD m gm F fc fs (goneM _ g) ps L Bs w _; exact done_gone HX.out.1 HX.out.2.1 HX.out.2.2 hm5 hv5 HOB.out⟩
      · have HCP := Lib.hid (show commitP fs M g k i n = (M, false) by
          unfold commitP
          simp only
          rw [← HANS.out, HSE.out]
          simp only
          rw [if_neg hn])
        have e1 : (told == n) = false := by simpa using hn
        have e2 : (told != n) = true := by simpa using hn
        have HDN := Lib.hid (doneD_same (HM.out.step (HBV.out.trans (HBX.out.mono HBV.out.size)) HS.out) (Mv.of_below (L := []) (HBV.out.trans (HBX.out.mono HBV.out.size)) (Nat.le_refl _)) (by simp))
        clear hn
        go_wp2_with fail
        go_ret
        rw [HRV.out, HCP.out]
        exact ⟨rfl, HDN.out⟩
    · go_wp2_with fail
      obtain ⟨VA, HVA⟩ : ∃ X, Hid (X = (V.alloc (.cells #[.int .i64 0, .int .i64 0, .int .i64 0, .int .i64 0, .int .i64 0, .int .i64 0, .int .i64 0, .int .i64 0, .int .i64 0, .int .i64 0, .slice none 0 0, .bool false] 56)).drew) := ⟨_, Lib.hid rfl⟩
      obtain ⟨q, HQE⟩ : ∃ q, Hid (q = V.heap.size) := ⟨_, Lib.hid rfl⟩
      have HBA := Lib.hid (show SB27 V VA by rw [HVA.out]; exact ((Below.refl V.heap.size V).alloc (Nat.le_refl _) _).drew)
      have HQA := Lib.hid (show Blk VA q 56 #[.int .i64 0, .int .i64 0, .int .i64 0, .int .i64 0, .int .i64 0, .int .i64 0, .int .i64 0, .int .i64 0, .int .i64 0, .int .i64 0, .slice none 0 0, .bool false] by rw [HVA.out, HQE.out]; exact (Blk.new V _ _).drew)
      have HQL := Lib.hid (show V.heap.size ≤ q by rw [HQE.out]; exact Nat.le_refl _)
      rw [← HVA.out, ← HQE.out]
      refine ⟨SB27 V, HBA.out, fun _ h => h, ?_⟩
      (try simp only [Act.put, List.setIfInBounds_toArray, List.set_cons_zero, List.set_cons_succ]); refine tree_one ?_; simp only [pickOps, List.getElem?_toArray]; (repeat (first | go_big_quiet_skip | (go_big_quiet_want; first | (go_big_quiet_op; first | go_big_quiet_on | ((first | with_reducible refine ⟨_, fun _ _ => rfl, ?_⟩); go_big_quiet_on)) | (simp (contextual := true) [go_sem, HVD]; with_reducible refine ⟨_, fun _ _ => rfl, ?_⟩; go_big_quiet_on)))); refine wpQuiet_nil ?_
      go_wp2_with (go_at_call 53; refine (HDO.out _ HBA.out).mono ?_; rintro e w2 ⟨B', d', rfl, hth2, hfr2, hb2⟩)
      have HB2 := Lib.hid (show SB27 V w2 from HBA.out.trans (hb2.mono HBA.out.size))
      have HQ2 := Lib.hid (HQA.out.below hb2 HQA.out.lt)
      have HT2 := Lib.hid hth2
      have HFR2 := Lib.hid (show ∀ b, ob B' = some b → V.heap.size ≤ b from fun b hb => Nat.le_trans HBA.out.size (hfr2 b hb))
      have HFQ := Lib.hid (show ∀ b, ob B' = some b → b ≠ q from fun b hb e => by
        have h1 := hfr2 b hb
        have h2 := HQA.out.lt
        omega)
      have HZ0 := Lib.hid (show (Tryd.prog.info? 56).map (·.size) = some (thArr u B' d').size by rw [thArr_size B' d' hth2.regs]; exact Tryd.infoTh)
      have HZ1 := Lib.hid (show (12 : Nat) = (thArr u B' d').size from (thArr_size B' d' hth2.regs).symm)
      clear hth2 hfr2 hb2
      refine ⟨SB27 V, HB2.out, fun _ h => h, ?_⟩
      (try simp only [Act.put, List.setIfInBounds_toArray, List.set_cons_zero, List.set_cons_succ]); refine tree_one ?_; simp only [pickOps, List.getElem?_toArray, List.getElem?_cons_zero, List.getElem?_cons_succ]; (repeat (first | go_big_quiet_skip | (go_big_quiet_want; first | (go_big_quiet_op; first | go_big_quiet_on | ((first | with_reducible refine ⟨_, fun _ _ => rfl, ?_⟩); go_big_quiet_on)) | (simp (contextual := true) [go_sem, HVD]; with_reducible refine ⟨_, fun _ _ => rfl, ?_⟩; go_big_quiet_on)))); refine wpQuiet_nil ?_
      go_wp2_with (refine wpList_store_row rfl 56 _ _ rfl q (thArr u B' d') rfl rfl 56 _ HQ2.out HZ0.out HZ1.out (thArr_one u B' d') ?_)
      obtain ⟨X, HX⟩ : ∃ X, Hid (X = w2.setRow q (thArr u B' d')) := ⟨_, Lib.hid rfl⟩
      have HBX := Lib.hid (show SB27 V X by rw [HX.out]; exact below_setRow HB2.out HQL.out HB2.out.size _)
      have HQX := Lib.hid (show Blk X q 56 (thArr u B' d') by rw [HX.out]; exact HQ2.out.setRow _)
      have HTX := Lib.hid (show ThOk X X.heap.size u B' d' by
        rw [HX.out]
        exact thok_mv HT2.out (((Mv.refl [q] w2).setRow q _ (by simp))) (fun _ b hb => by have := HFQ.out b hb; simpa using this))
      rw [← HX.out]
      refine ⟨SB27 V, HBX.out, fun _ h => h, ?_⟩
      (try simp only [Act.put]); refine tree_fin ?_; simp only [pickOps, List.getElem?_toArray, List.getElem?_cons_zero, List.getElem?_cons_succ]; (repeat (first | go_big_quiet_skip | (go_big_quiet_want; first | (go_big_quiet_op; first | go_big_quiet_on | ((first | with_reducible refine ⟨_, fun _ _ => rfl, ?_⟩); go_big_quiet_on)) | (simp (contextual := true) [go_sem, HVD]; with_reducible refine ⟨_, fun _ _ => rfl, ?_⟩; go_big_quiet_on)))); refine wpQuiet_nil ?_
      clear HX HQE HT2 HB2 HZ0 HZ1 HDO HVD HQ2 HFQ HBA HQA HVA
      by_cases hn : told = n
      · have HCP := Lib.hid (show commitP fs M g k i n = (if u.done = true then goneM { (deedP M g k i).2 with l := (deedP M g k i).2.l.set k { goAt (deedP M g k i).2 k with th := u, beg := false } } g else { (deedP M g k i).2 with l := (deedP M g k i).2.l.set k { goAt (deedP M g k i).2 k with th := u, beg := false } }, true) by
          unfold commitP
          simp only
          rw [← HANS.out, HSE.out]
          simp only
          rw [if_pos hn])
        have e1 : (told == n) = true := by simpa using hn
        have e2 : (told != n) = false := by simpa using hn
        have D9 : X.cell? ⟨gd, 9, none⟩ = some (.func (.func fid) #[] caps) := HBX.out.cell HDV.out rfl
        clear hn
        go_wp2_with fail
        refine (HCL.out X HBX.out).mono ?_
        rintro e w3 ⟨rfl, hd⟩
        obtain ⟨B1, d1, hb1, hr1, hq3, hpq, hdone⟩ := com_mid HM.out HS.out HKP.out.1 HKP.out.2 (HBV.out.trans (HBX.out.mono HBV.out.size)) HQX.out (Nat.le_trans HBV.out.size HQL.out) HTX.out (fun b hb => Nat.le_trans HBV.out.size (HFR2.out b hb)) HFT.out.1 HFT.out.2 hd
        have HB1 := Lib.hid hb1
        have HQ3 := Lib.hid hq3
        have HPQ := Lib.hid hpq
        obtain ⟨Y, HY⟩ : ∃ Y, Hid (Y = splice (goArr (goAt (deedP M g k i).2 k) B1 d1) 0 (thArr u B' d')) := ⟨_, Lib.hid rfl⟩
        obtain ⟨w4, HW4⟩ : ∃ w4, Hid (w4 = w3.setRow p Y) := ⟨_, Lib.hid rfl⟩
        rw [← HY.out, ← HW4.out] at hdone
        have HDN := Lib.hid hdone
        have HB4 := Lib.hid (show Blk w4 p 68 Y by rw [HW4.out]; exact hb1.setRow _)
        have HQ4 := Lib.hid (show Blk w4 q 56 (thArr u B' d') by rw [HW4.out]; exact hq3.farRow (Ne.symm hpq) _)
        have f15 := HB4.out.frozen 15
        have c15 : w4.cell? ⟨p, 15, none⟩ = some (.bool (goAt (deedP M g k i).2 k).beg) := (HB4.out.cell 15).trans (by rw [HY.out, splice_go B1 B' d1 d' u hr1 HTX.out.regs]; exact goArr_end _ _ _ HTX.out.regs 3)
        have q11 : (w4.setCell ⟨p, 15, none⟩ (.bool false)).cell? ⟨q, 11, none⟩ = some (.bool u.done) := ((HQ4.out.far (p := ⟨p, 15, none⟩) (Ne.symm hpq) _).cell 11).trans (thArr_11 _ _ HTX.out.regs)
        have HSZU := Lib.hid (show (Tryd.prog.info? 56).map (·.size) = some (thArr u B' d').size by rw [thArr_size B' d' HTX.out.regs]; exact Tryd.infoTh)
        have HSZ2 := Lib.hid (show 0 + (thArr u B' d').size ≤ (goArr (goAt (deedP M g k i).2 k) B1 d1).size by rw [thArr_size B' d' HTX.out.regs]; unfold goArr; simp [thArr_size B1 d1 hr1])
        clear hb1 hq3 hpq hdone hd hr1
        have Q4H := HQ4.out
        cases hud : u.done with
        | false =>
          rw [hud] at q11
          have HUD := Lib.hid hud
          clear hud
          go_wp2_with (first | (refine wpList_load_rowW (by rfl) 56 _ rfl q rfl 56 (thArr u B' d') (0, 0) _ HQ3.out Tryd.underlying56 rfl HSZU.out ?_) | (refine wpList_store_sub rfl 56 _ _ rfl p 0 (thArr u B' d') rfl rfl 68 _ HB1.out HSZU.out HSZ2.out (thArr_one u B' d') ?_; rw [← HY.out, ← HW4.out]))
          go_ret
          rw [HRV.out, HCP.out]
          exact ⟨rfl, by rw [if_neg (by rw [HUD.out]; decide)]; exact HDN.out⟩
        | true =>
          rw [hud] at q11
          have HUD := Lib.hid hud
          clear hud
          obtain ⟨ex, L', c', Bs', hN, hex, hL, hv, hOB⟩ := HDN.out
          have HGN := Lib.hid (gone_any hN (Nat.le_trans HS.out hv.size) g)
          have HX := Lib.hid (And.intro hex (And.intro hL hv))
          have HOB := Lib.hid hOB
          clear hN hex hL hv hOB
          go_wp2_with (first | (refine wpList_load_rowW (by rfl) 56 _ rfl q rfl 56 (thArr u B' d') (0, 0) _ HQ3.out Tryd.underlying56 rfl HSZU.out ?_) | (refine wpList_store_sub rfl 56 _ _ rfl p 0 (thArr u B' d') rfl rfl 68 _ HB1.out HSZU.out HSZ2.out (thArr_one u B' d') ?_; rw [← HY.out, ← HW4.out]) | (go_at_call 54; refine HGN.out.mono ?_; rintro e w5 ⟨rfl, hm5, hv5⟩))
          go_ret
          rw [HRV.out, HCP.out]
          exact ⟨rfl, by rw [if_pos HUD.out]; show DoneD m gm F fc fs (goneM _ g) ps L Bs w _; exact done_gone HX.out.1 HX.out.2.1 HX.out.2.2 hm5 hv5 HOB.out⟩
      · have HCP := Lib.hid (show commitP fs M g k i n = (M, false) by
          unfold commitP
          simp only
          rw [← HANS.out, HSE.out]
          simp only
          rw [if_neg hn])
        have e1 : (told == n) = false := by simpa using hn
        have e2 : (told != n) = true := by simpa using hn
        have HDN := Lib.hid (doneD_same (HM.out.step (HBV.out.trans (HBX.out.mono HBV.out.size)) HS.out) (Mv.of_below (L := []) (HBV.out.trans (HBX.out.mono HBV.out.size)) (Nat.le_refl _)) (by simp))
        clear hn
        go_wp2_with fail
        go_ret
        rw [HRV.out, HCP.out]
        exact ⟨rfl, HDN.out⟩
end
end Go.Proofs.YtkfpnppppmccdaaDoor
namespace Go.Proofs.YtkfpnppppmccdaaDoor
open Go.RowKit
/-- An event. -/
structure Ev where
  kind : Int
  g : Int
  fn : Int
  pc : Int
  n : Int
def evArr (e : Ev) : Array Value := #[.int .i64 e.kind, .int .i64 e.g, .int .i64 e.fn, .int .i64 e.pc, .int .i64 e.n]
/-- The goroutine g has begun; it owns the world, if its instruction does not ask. -/
def beginM (M : Md) (g : Int) (k : Nat) (i : Ins) : Md := { M with l := M.l.set k { goAt M k with beg := true }, owner := if opAsks i.op = true then M.owner else g }
/-- What comes of an event: the model then; was it allowed? -/
def doP (fs : List Fn) (M : Md) (e : Ev) : Md × Bool :=
  if actsP M e.g = true then
    let k := (e.g - 1).toNat
    let x := goAt M k
    if x.th.fn = e.fn ∧ x.th.pc = e.pc then
      let i := insAt fs e.fn e.pc
      if e.kind = 2 then if commitsP M e.g k i = true then commitP fs M e.g k i e.n else (M, false)
      else if e.kind = 1 ∧ e.n = 0 ∧ beginsP M k i = true then (beginM M e.g k i, true) else (M, false)
    else (M, false)
  else (M, false)
theorem acts_get {M : Md} {g : Int} (h : actsP M g = true) : ∃ k, getM M g = some k ∧ k < M.l.length ∧ g = k + 1 ∧ (goAt M k).th.done = false := by
  unfold actsP at h
  cases hg : getM M g with
  | none => rw [hg] at h; cases h
  | some k =>
    rw [hg] at h
    simp only [Bool.and_eq_true, Bool.not_eq_true'] at h
    exact ⟨k, rfl, (getM_lt hg).1, (getM_lt hg).2, h.1⟩
theorem new_fits {fs : List Fn} (hr : runB fs = true) {n : Int} (h0 : 0 ≤ n) (h1 : n < fs.length) (x : Int) : fitsT fs (newTh n x) = true := by
  obtain ⟨k, rfl⟩ := Int.eq_ofNat_of_zero_le h0
  have hk : k < fs.length := by omega
  have hl := (fn_ok ((run_fn hr).2.2 k hk)).1
  exact fitsT_of hr rfl (placeB_of hk hl) (by simp [newTh]) (by simp [newTh, placesB])
theorem target10 : opTarget 10 = 2 := by decide +kernel
section
variable {w : World} {m gm : Nat} {F : Option Addr} {fc : Nat} {fs : List Fn} {M : Md} {ps : List Nat} {L : Option Addr} {c : Nat} {Bs : List (Option Addr × Nat)}
theorem DoneD.pre {w1 w2 : World} {M' : Md} (h : DoneD m gm F fc fs M' ps L Bs w1 w2) (hb : Below w.heap.size w w1) : DoneD m gm F fc fs M' ps L Bs w w2 := by
  obtain ⟨ex, L', c', Bs', hM, hex, hL, hv, hOB⟩ := h
  refine ⟨ex, L', c', Bs', hM, fun x hx => Nat.le_trans hb.size (hex x hx), ?_, (Mv.of_below hb (Nat.le_refl _)).trans hv, fun p hp b h2 => (hOB p hp b h2).imp id (fun h3 => Nat.le_trans hb.size h3)⟩
  rcases hL with e | ⟨b, e, h4⟩
  · exact .inl e
  · exact .inr ⟨b, e, Nat.le_trans hb.size h4⟩
theorem DoneD.none_ {w1 : World} (h : MdIs w m gm F fc fs M ps L c Bs) (hs : m ≤ w.heap.size) (hb : Below w.heap.size w w1) : DoneD m gm F fc fs M ps L Bs w w1 :=
  doneD_same (h.step hb hs) (Mv.of_below (L := []) hb (Nat.le_refl _)) (by simp)
/-- Where the instruction of a goroutine lies. -/
theorem MdIs.fetch (h : MdIs w m gm F fc fs M ps L c Bs) {k : Nat} (hk : k < M.l.length) (hnd : (goAt M k).th.done = false) :
    ∃ k1 m1 b1 off1 b2 off2 an ac : Nat, (goAt M k).th.fn = (k1 : Int) ∧ (goAt M k).th.pc = (m1 : Int) ∧ k1 < fs.length ∧ m1 < an ∧ m1 < 64 ∧ an ≤ maxLen ∧ F = some ⟨b1, off1, none⟩ ∧ b1 < m ∧ b2 < m ∧ runB fs = true ∧
      (∃ places, InsRun (insAt fs k1 m1) places fs.length) ∧ w.cell? ⟨b1, off1 + k1 * 2, none⟩ = some (.slice (some ⟨b2, off2, none⟩) an ac) ∧ ∀ j v, (insArr (insAt fs k1 m1))[j]? = some v → w.cell? ⟨b2, off2 + m1 * 5 + j, none⟩ = some v := by
  have hf := h.fits k hk
  rw [← goAt_eq hk] at hf
  obtain ⟨hrun, k1, m1, ek, em, hk1, hm1, ei⟩ := fits_place hf hnd
  obtain ⟨b1, off1, b2, off2, an, ac, e1, hb1, hb2, hma, hna, hc0, -, i0, i1, i2, i3, i4⟩ := h.prog.1.fetch hk1 hm1
  rw [ek, em] at ei
  refine ⟨k1, m1, b1, off1, b2, off2, an, ac, ek, em, hk1, hma, ?_, hna, e1, hb1, hb2, hrun, ⟨_, by rw [ei]; exact run_ins hrun hk1 hm1⟩, hc0, ?_⟩
  · exact Nat.lt_of_lt_of_le hm1 (fn_ok ((run_fn hrun).2.2 k1 hk1)).2.1
  · rw [ei]
    intro j v hv
    match j with
    | 0 => rw [← hv]; exact i0
    | 1 => rw [← hv]; exact i1
    | 2 => rw [← hv]; exact i2
    | 3 => rw [← hv]; exact i3
    | 4 => rw [← hv]; exact i4
    | j + 5 =>
      have := (Array.getElem?_eq_some_iff.1 hv).1
      have h5 : (insArr fs[k1].code[m1]).size = 5 := rfl
      omega
theorem tab_mv {w' : World} {X : List Nat} (h : Tab w) (hm : Mv X w w') (h0 : 0 ∉ X) : Tab w' := by
  obtain ⟨t, fr, hh⟩ := h
  exact ⟨t, fr, (hm.block 0 (by rw [Array.getElem?_eq_some_iff] at hh; exact hh.1) h0).trans hh⟩
theorem beg_mid (h : MdIs w m gm F fc fs M ps L c Bs) (hs : m ≤ w.heap.size) {k p : Nat} (hk : k < M.l.length) (hp : ps[k]? = some p) :
    MdIs (w.setCell ⟨p, 15, none⟩ (.bool true)) m gm F fc fs { M with l := M.l.set k { goAt M k with beg := true } } ps L c Bs ∧ Mv [p] w (w.setCell ⟨p, 15, none⟩ (.bool true)) := by
  obtain ⟨-, -, -, hr⟩ := h.blkAt hk hp
  have hv : Mv [p] w (w.setCell ⟨p, 15, none⟩ (.bool true)) := (Mv.refl _ _).set _ _ (by simp)
  exact ⟨h.flag hs hk hp { goAt M k with beg := true } rfl hv (fun B d hb => by rw [← (goArr_flag _ B d hr true).2.2.2]; exact hb.set_ 15 _), hv⟩
theorem beg_own (h : MdIs w m gm F fc fs M ps L c Bs) (hs : m ≤ w.heap.size) (g : Int) :
    MdIs (w.setCell ⟨gm, 4, none⟩ (.int .i64 g)) m gm F fc fs { M with owner := g } ps L c Bs ∧ Mv [gm] w (w.setCell ⟨gm, 4, none⟩ (.int .i64 g)) := by
  have hv : Mv [gm] w (w.setCell ⟨gm, 4, none⟩ (.int .i64 g)) := (Mv.refl _ _).set _ _ (by simp)
  exact ⟨h.setHead hs M.holder g hv (h.head.set_ 4 _), hv⟩
set_option maxRecDepth 10000 in
set_option maxHeartbeats 4000000 in
theorem do27_any (h : MdIs w m gm F fc fs M ps L c Bs) (hs : m ≤ w.heap.size) (hT : Tab w) (hm0 : 0 < m) (hgs : M.gs ≤ 100) (ev : Ev) :
    Calls Tryd.prog 15 #[.pointer (some ⟨gm, 0, none⟩), .agg (evArr ev)] w fun r w' => r = .returned (.int .i64 (if (doP fs M ev).2 = true then 0 else 9)) ∧ DoneD m gm F fc fs (doP fs M ev).1 ps L Bs w w' := by
  obtain ⟨rv, HRV⟩ : ∃ rv : Int, Hid (rv = if (doP fs M ev).2 = true then 0 else 9) := ⟨_, Lib.hid rfl⟩
  rw [← HRV.out]
  obtain ⟨kind, g, fn, pc, en⟩ := ev
  obtain ⟨W, HW⟩ : ∃ W, Hid (W = w.alloc (.cells (evArr ⟨kind, g, fn, pc, en⟩) 43)) := ⟨_, Lib.hid rfl⟩
  obtain ⟨eb, HEB⟩ : ∃ eb, Hid (eb = w.heap.size) := ⟨_, Lib.hid rfl⟩
  have HBW := Lib.hid (show Below w.heap.size w W by rw [HW.out]; exact (Below.refl w.heap.size w).alloc (Nat.le_refl _) _)
  have HE := Lib.hid (show Blk W eb 43 (evArr ⟨kind, g, fn, pc, en⟩) by rw [HW.out, HEB.out]; exact Blk.new _ _ _)
  have HMW := Lib.hid (h.step HBW.out hs)
  have HAC := Lib.hid (acts_any HMW.out g)
  have E0 : ∀ w', SB27 W w' → w'.cell? ⟨eb, 0, none⟩ = some (.int .i64 kind) := fun w' h => h.cell HE.out rfl
  have E1 : ∀ w', SB27 W w' → w'.cell? ⟨eb, 1, none⟩ = some (.int .i64 g) := fun w' h => h.cell HE.out rfl
  have E2 : ∀ w', SB27 W w' → w'.cell? ⟨eb, 2, none⟩ = some (.int .i64 fn) := fun w' h => h.cell HE.out rfl
  have E3 : ∀ w', SB27 W w' → w'.cell? ⟨eb, 3, none⟩ = some (.int .i64 pc) := fun w' h => h.cell HE.out rfl
  have E4 : ∀ w', SB27 W w' → w'.cell? ⟨eb, 4, none⟩ = some (.int .i64 en) := fun w' h => h.cell HE.out rfl
  have e1 : W.cell? ⟨eb, 1, none⟩ = some (.int .i64 g) := E1 W (Below.refl _ _)
  have HM := Lib.hid h
  have HS := Lib.hid hs
  have HT := Lib.hid hT
  have HGS := Lib.hid hgs
  have HM0 := Lib.hid hm0
  have HSW := Lib.hid (Nat.le_trans hs HBW.out.size)
  have HTW := Lib.hid (hT.step HBW.out)
  have hw := HW.out
  unfold evArr at hw
  simp only at hw
  have heb := HEB.out
  clear h hs hT hgs hm0
  by_cases ha : actsP M g = true
  · rw [ha] at HAC
    obtain ⟨k, -, hk, rfl, hnd⟩ := acts_get ha
    obtain ⟨k1, m1, b1, off1, b2, off2, an, ac, hfn, hpc, hk1, hm1, hm64, han, rfl, hb1, hb2, hrun, ⟨pls, hins⟩, f1, fi⟩ := HMW.out.fetch hk hnd
    obtain ⟨p, hp, hpv, hc⟩ := HMW.out.go hk
    obtain ⟨b, rfl, hmb, hbl, hcell⟩ := HMW.out.ptr k hk
    obtain ⟨-, -, q2, -, -⟩ := HMW.out.five
    have hlp := HMW.out.lp
    have hfew := HMW.out.few
    have hpp : ps[k]'(by omega) = p := by
      rw [List.getElem?_eq_getElem (by omega)] at hp
      injection hp
    rw [hpp] at hcell
    unfold pptr at hcell
    obtain ⟨i, HIE⟩ : ∃ i, Hid (i = insAt fs k1 m1) := ⟨_, Lib.hid rfl⟩
    rw [← HIE.out] at hins fi
    have G0 : ∀ w', SB27 W w' → w'.cell? ⟨gm, 0, none⟩ = some (.slice (some ⟨b1, off1, none⟩) fs.length fc) := fun w' h => h.cell HMW.out.head rfl
    have G2 : ∀ w', SB27 W w' → w'.cell? ⟨gm, 2, none⟩ = some (.slice (some ⟨b, 0, none⟩) ps.length c) := fun w' h => h.cell HMW.out.head rfl
    have LP : ∀ w', SB27 W w' → w'.cell? ⟨b, k, none⟩ = some (.pointer (some ⟨p, 0, none⟩)) := fun w' h => (Below.cell (p := ⟨b, k, none⟩) h hbl).trans hcell
    have hpl : p < W.heap.size := HMW.out.pl p (List.mem_of_getElem? hp)
    have P0 : ∀ w', SB27 W w' → w'.cell? ⟨p, 0, none⟩ = some (.int .i64 (k1 : Int)) := fun w' h => by rw [← hfn]; exact (hc.step hpl h).fn
    have P1 : ∀ w', SB27 W w' → w'.cell? ⟨p, 1, none⟩ = some (.int .i64 (m1 : Int)) := fun w' h => by rw [← hpc]; exact (hc.step hpl h).pc
    have HE15 := Lib.hid (show ∀ w', SB27 W w' → w'.cell? ⟨p, 15, none⟩ = some (.bool (goAt M k).beg) from fun w' h => (hc.step hpl h).beg)
    have hmW := HSW.out
    have F1 : ∀ w', SB27 W w' → w'.cell? ⟨b1, off1 + k1 * 2, none⟩ = some (.slice (some ⟨b2, off2, none⟩) an ac) := fun w' h => (Below.cell (p := ⟨b1, off1 + k1 * 2, none⟩) h (by show b1 < _; omega)).trans f1
    have FI : ∀ w', SB27 W w' → (loadVar 64 ⟨b2, off2 + m1 * 5, none⟩).run Tryd.prog w' = .ok (.agg (insArr i)) w' := fun w' h => run_loadVar_cells w' b2 (off2 + m1 * 5) _ _ _ (fun j v hv => (Below.cell (p := ⟨b2, off2 + m1 * 5 + j, none⟩) h (by show b2 < _; omega)).trans (fi j v hv)) Tryd.underlying64 rfl (Tryd.infoIns5 _ _ _ _ _)
    have HA := Lib.hid ha
    have HK := Lib.hid (And.intro hk (And.intro hp hnd))
    have HFP := Lib.hid (And.intro hfn hpc)
    have HIN := Lib.hid hins
    have HRN := Lib.hid hrun
    obtain ⟨n, HN⟩ : ∃ n, Hid (n = ps.length) := ⟨_, Lib.hid rfl⟩
    have hkn : k < n := by rw [HN.out]; omega
    have hn100 : n ≤ 100 := by rw [HN.out]; omega
    rw [← HN.out] at G2
    obtain ⟨nf, HNF⟩ : ∃ n, Hid (n = fs.length) := ⟨_, Lib.hid rfl⟩
    have hk1n : k1 < nf := by rw [HNF.out]; exact hk1
    have hnf : nf ≤ 16 := by rw [HNF.out]; exact (run_fn hrun).2.1
    rw [← HNF.out] at G0
    have han2 : an ≤ maxLen := han
    unfold maxLen at han2
    have HDW := Lib.hid (show SB27 W W.drew from (Below.refl _ W).drew)
    clear ha hk hp hpv hc hmb hbl hcell q2 hlp hfew hpp hins hrun f1 fi hnd hb1 hb2 hmW hfn hpc han hk1
    go_enter Tryd.func15, Tryd.ntmps15
    unfold evArr
    go_wp2_with fail
    rw [← hw, ← heb]
    clear hw heb
    refine HAC.out.mono ?_
    rintro e w1 ⟨rfl, rfl⟩
    go_wp2_with fail
    refine region_calm (SB27 W) (by kernel_rfl) (by kernel_rfl) HDW.out ?_
    repeat (first | go_big_quiet_skip | (go_big_quiet_want; first | (go_big_quiet_op; first | go_big_quiet_on | ((first | with_reducible refine ⟨_, fun _ _ => rfl, ?_⟩); go_big_quiet_on)) | (simp (contextual := true) [go_sem, E1, G2, LP]; with_reducible refine ⟨_, fun _ _ => rfl, ?_⟩; go_big_quiet_on)))
    refine wpQuiet_nil ?_
    intro W1 hW1
    have HB1 := Lib.hid (show SB27 W W1 from hW1)
    have HD1 := Lib.hid (show SB27 W W1.drew from Below.drew hW1)
    clear hW1
    by_cases hx : (k1 : Int) = fn ∧ (m1 : Int) = pc
    · obtain ⟨rfl, rfl⟩ := hx
      go_wp2_with fail
      refine region_calm (SB27 W) (by kernel_rfl) (by kernel_rfl) HD1.out ?_
      repeat (first | go_big_quiet_skip | (go_big_quiet_want; first | (go_big_quiet_op; first | go_big_quiet_on | ((first | with_reducible refine ⟨_, fun _ _ => rfl, ?_⟩); go_big_quiet_on)) | (simp (contextual := true) [go_sem, E2, E3, P0, P1]; with_reducible refine ⟨_, fun _ _ => rfl, ?_⟩; go_big_quiet_on)))
      refine wpQuiet_nil ?_
      intro W2 hW2
      have HB2 := Lib.hid (show SB27 W W2 from hW2)
      have HD2 := Lib.hid (show SB27 W W2.drew from Below.drew hW2)
      clear hW2
      go_wp2_with fail
      refine region_sch (SB27 W) [([0, 1, 2, 3, 4, 5, 6, 7, 8, 9, 10, 11, 12, 13], 14), ([], 15)] [] (by kernel_rfl) (by kernel_rfl) (by kernel_rfl) (fun _ _ d _ _ h => by cases d <;> exact h) HD2.out ?_
      (try simp only [Act.put, List.setIfInBounds_toArray, List.set_cons_zero, List.set_cons_succ]); refine sch_seg ?_; simp only [pickOps, List.getElem?_toArray, List.getElem?_cons_zero, List.getElem?_cons_succ]; (repeat (first | (refine quiet_load_at (by rfl) 64 _ rfl ⟨b2, off2 + m1 * 5, none⟩ rfl (insArr i) FI ?_; simp only [Act.put, List.setIfInBounds_toArray, List.set_cons_zero, List.set_cons_succ]) | go_big_quiet_skip | (go_big_quiet_want; first | (go_big_quiet_op; first | go_big_quiet_on | ((first | with_reducible refine ⟨_, fun _ _ => rfl, ?_⟩); go_big_quiet_on)) | (simp (contextual := true) [go_sem, G0, E2, F1, E3]; with_reducible refine ⟨_, fun _ _ => rfl, ?_⟩; go_big_quiet_on)))); refine wpQuiet_nil ?_
      clear G0 G2 LP F1 FI
      go_wp2_with fail
      obtain ⟨X0, HX0⟩ : ∃ X, Hid (X = (W2.alloc (.cells #[.int .i64 0, .int .i64 0, .int .i64 0, .int .i64 0, .int .i64 0] 64)).drew) := ⟨_, Lib.hid rfl⟩
      obtain ⟨q, HQE⟩ : ∃ q, Hid (q = W2.heap.size) := ⟨_, Lib.hid rfl⟩
      have HQ0 := Lib.hid (show Blk X0 q 64 #[.int .i64 0, .int .i64 0, .int .i64 0, .int .i64 0, .int .i64 0] by rw [HX0.out, HQE.out]; exact (Blk.new W2 _ _).drew)
      have HBX0 := Lib.hid (show SB27 W X0 by rw [HX0.out]; exact (Below.alloc HB2.out HB2.out.size _).drew)
      have HQL := Lib.hid (show W.heap.size ≤ q by rw [HQE.out]; exact HB2.out.size)
      rw [← HX0.out, ← HQE.out]
      refine ⟨SB27 W, HBX0.out, fun _ h => h, ?_⟩
      (try simp only [Act.put]); refine sch_seg ?_; simp only [pickOps, List.getElem?_toArray, List.getElem?_cons_zero, List.getElem?_cons_succ]; (repeat (first | go_big_quiet_skip | (go_big_quiet_want; first | (go_big_quiet_op; first | go_big_quiet_on | ((first | with_reducible refine ⟨_, fun _ _ => rfl, ?_⟩); go_big_quiet_on)) | (simp (contextual := true) [go_sem, E0]; with_reducible refine ⟨_, fun _ _ => rfl, ?_⟩; go_big_quiet_on)))); refine wpQuiet_nil ?_
      go_wp2_with (refine wpList_store_row rfl 64 _ _ rfl q (insArr i) rfl rfl 64 _ HQ0.out Tryd.infoInsS rfl (insArr_one i) ?_)
      obtain ⟨X, HX⟩ : ∃ X, Hid (X = X0.setRow q (insArr i)) := ⟨_, Lib.hid rfl⟩
      have HBX := Lib.hid (show SB27 W X by rw [HX.out]; exact below_setRow HBX0.out HQL.out HBX0.out.size _)
      have HQX := Lib.hid (show Blk X q 64 (insArr i) by rw [HX.out]; exact HQ0.out.setRow _)
      rw [← HX.out]
      refine ⟨SB27 W, HBX.out, fun _ h => h, ?_⟩
      (try simp only [Act.put]); refine sch_end ?_; simp only [pickOps]; (repeat (first | go_big_quiet_skip | (go_big_quiet_want; first | (go_big_quiet_op; first | go_big_quiet_on | ((first | with_reducible refine ⟨_, fun _ _ => rfl, ?_⟩); go_big_quiet_on)) | (simp (contextual := true) [go_sem, E0]; with_reducible refine ⟨_, fun _ _ => rfl, ?_⟩; go_big_quiet_on)))); refine wpQuiet_nil ?_
      clear HX0 HX HQE HQ0 HBX0 E2 E3 P0 P1 e1
      obtain ⟨a, HAE⟩ : ∃ a : Nat, Hid (i.a = a) := by
        obtain ⟨a, h⟩ := Int.eq_ofNat_of_zero_le HIN.out.a0
        exact ⟨a, Lib.hid h⟩
      have HA8 := Lib.hid (show a < 8 by have := HIN.out.a8; rw [HAE.out] at this; omega)
      have HKN := Lib.hid (show ((k : Int) + 1 - 1).toNat = k by omega)
      have HDP := Lib.hid (show doP fs M ⟨kind, k + 1, k1, m1, en⟩ = (if kind = 2 then if commitsP M (k + 1) k i = true then commitP fs M (k + 1) k i en else (M, false) else if kind = 1 ∧ en = 0 ∧ beginsP M k i = true then (beginM M (k + 1) k i, true) else (M, false)) by
        unfold doP
        simp only
        rw [if_pos HA.out, HKN.out, HFP.out.1, HFP.out.2, if_pos ⟨rfl, rfl⟩, ← HIE.out])
      have HCM := Lib.hid (fun (V : World) (hV : Below W.heap.size W V) => commits_any (HMW.out.step hV HSW.out) (Nat.le_trans HSW.out hV.size) ((k : Int) + 1) HK.out.1 HK.out.2.1 i a HAE.out HA8.out)
      have HBG := Lib.hid (fun (V : World) (hV : Below W.heap.size W V) => begins_any (HMW.out.step hV HSW.out) (Nat.le_trans HSW.out hV.size) ((k : Int) + 1) HK.out.1 HK.out.2.1 i a HAE.out HA8.out)
      have HCT := Lib.hid (fun (V : World) (hV : Below W.heap.size W V) => commit_any (HMW.out.step hV HSW.out) (Nat.le_trans HSW.out hV.size) (HTW.out.step hV) HK.out.1 HK.out.2.1 ((k : Int) + 1) i a HAE.out HA8.out (fun h10 x => by
        have ht := HIN.out.toFunc (by rw [h10]; exact target10)
        exact new_fits HRN.out ht.1 ht.2 x) HGS.out en)
      unfold insArr at HCM HBG HCT
      obtain ⟨cv, HCV⟩ : ∃ cv : Int, Hid (cv = if (commitP fs M ((k : Int) + 1) k i en).2 = true then 0 else 9) := ⟨_, Lib.hid rfl⟩
      simp only [← HCV.out] at HCT
      have J : ∀ V, SB27 X V → (V.cell? ⟨q, 0, none⟩ = some (.int .i64 i.op) ∧ V.cell? ⟨q, 1, none⟩ = some (.int .i64 i.a) ∧ V.cell? ⟨q, 2, none⟩ = some (.int .i64 i.b) ∧ V.cell? ⟨q, 3, none⟩ = some (.int .i64 i.c) ∧ V.cell? ⟨q, 4, none⟩ = some (.int .i64 i.n)) := fun V h => ⟨h.cell HQX.out rfl, h.cell HQX.out rfl, h.cell HQX.out rfl, h.cell HQX.out rfl, h.cell HQX.out rfl⟩
      have HJ := Lib.hid J
      obtain ⟨j0, j1, j2, j3, j4⟩ := J X (Below.refl _ _)
      have HE0 := Lib.hid E0
      have HE1 := Lib.hid E1
      have HE4 := Lib.hid E4
      have c0 := E0 X HBX.out
      have c1 := E1 X HBX.out
      have c4 := E4 X HBX.out
      clear J E0 E1 E4 hk1n hnf han2 hkn hn100 hm1 hm64
      by_cases hk2 : kind = 2
      · rw [if_pos hk2] at HDP
        subst hk2
        cases hcb : commitsP M ((k : Int) + 1) k i with
        | true =>
          rw [if_pos hcb] at HDP
          rw [hcb] at HCM
          clear hcb
          go_wp2_with (first | (go_at_call 31; refine (HCM.out _ HBX.out).mono ?_; rintro e W3 ⟨rfl, hb3⟩; have HB3 := Lib.hid (show SB27 W W3 from HBX.out.trans (hb3.mono HBX.out.size)); obtain ⟨l0, l1, l2, l3, l4⟩ := HJ.out W3 hb3; have d1 := HE1.out W3 HB3.out; have d4 := HE4.out W3 HB3.out; clear hb3) | (go_at_call 32; refine (HCT.out _ HB3.out).mono ?_; rintro e W4 ⟨rfl, hd⟩; have HD4 := Lib.hid hd; clear hd))
          go_ret
          rw [HRV.out, HDP.out, ← HCV.out]
          exact ⟨rfl, HD4.out.pre (HBW.out.trans (Below.mono HB3.out HBW.out.size))⟩
        | false =>
          rw [if_neg (by rw [hcb]; decide)] at HDP
          rw [hcb] at HCM
          clear hcb
          go_wp2_with (first | (go_at_call 31; refine (HCM.out _ HBX.out).mono ?_; rintro e W3 ⟨rfl, hb3⟩; have HB3 := Lib.hid (show SB27 W W3 from HBX.out.trans (hb3.mono HBX.out.size)); have d0 := HE0.out W3 HB3.out; clear hb3))
          go_ret
          rw [HRV.out, HDP.out]
          exact ⟨rfl, DoneD.none_ HM.out HS.out (HBW.out.trans (Below.mono HB3.out HBW.out.size))⟩
      · rw [if_neg hk2] at HDP
        have e2 : (kind == 2) = false := by simpa using hk2
        clear hk2
        by_cases hk1 : kind = 1
        · subst hk1
          by_cases hen : en = 0
          · subst hen
            cases hbb : beginsP M k i with
            | false =>
              rw [if_neg (by rw [hbb]; decide)] at HDP
              rw [hbb] at HBG
              clear hbb
              go_wp2_with (first | (go_at_call 33; refine (HBG.out _ HBX.out).mono ?_; rintro e W3 ⟨rfl, hb3⟩; have HB3 := Lib.hid (show SB27 W W3 from HBX.out.trans (hb3.mono HBX.out.size)); clear hb3))
              go_ret
              rw [HRV.out, HDP.out]
              exact ⟨rfl, DoneD.none_ HM.out HS.out (HBW.out.trans (Below.mono HB3.out HBW.out.size))⟩
            | true =>
              rw [if_pos ⟨rfl, rfl, hbb⟩] at HDP
              rw [hbb] at HBG
              clear hbb
              have HQP := Lib.hid (show q ≠ p from fun e => by have := HQL.out; omega)
              have HEP := Lib.hid (show eb ≠ p from fun e => by have := HM.out.pl p (List.mem_of_getElem? HK.out.2.1); rw [HEB.out] at e; omega)
              go_wp2_with (first | (go_at_call 33; refine (HBG.out _ HBX.out).mono ?_; rintro e W3 ⟨rfl, hb3⟩; have HB3 := Lib.hid (show SB27 W W3 from HBX.out.trans (hb3.mono HBX.out.size)); have HQ3 := Lib.hid (HQX.out.below hb3 HQX.out.lt); clear hb3; have c15 := HE15.out W3 HB3.out; obtain ⟨B1, d1, hbl3, -⟩ := (HMW.out.step HB3.out HSW.out).blkAt HK.out.1 HK.out.2.1; have f15 := hbl3.frozen 15; clear hbl3; have s0 : (W3.setCell ⟨p, 15, none⟩ (.bool true)).cell? ⟨q, 0, none⟩ = some (.int .i64 i.op) := (Blk.cell (HQ3.out.far (p := ⟨p, 15, none⟩) HQP.out _) 0).trans rfl))
              obtain ⟨W4, HW4⟩ : ∃ X, Hid (X = W3.setCell ⟨p, 15, none⟩ (.bool true)) := ⟨_, Lib.hid rfl⟩
              rw [← HW4.out]
              have HBM := Lib.hid (beg_mid (HMW.out.step HB3.out HSW.out) (Nat.le_trans HSW.out (Below.size HB3.out)) HK.out.1 HK.out.2.1)
              rw [← HW4.out] at HBM
              refine (isaAsks_any i.op W4 (tab_mv (HTW.out.step HB3.out) HBM.out.2 (by rw [List.mem_singleton]; intro e; have := HM.out.low.2 p (List.mem_of_getElem? HK.out.2.1); have := HM0.out; omega))).mono ?_
              rintro e W5 ⟨rfl, hb5⟩
              have HB5 := Lib.hid hb5
              clear hb5
              obtain ⟨ask, HASK⟩ : ∃ a, Hid (a = opAsks i.op) := ⟨_, Lib.hid rfl⟩
              rw [← HASK.out]
              have HM5 := Lib.hid (HBM.out.1.step HB5.out (Nat.le_trans (Nat.le_trans HSW.out (Below.size HB3.out)) HBM.out.2.size))
              have HMV := Lib.hid (((Mv.of_below (L := [p]) (HBW.out.trans (Below.mono HB3.out HBW.out.size)) (Nat.le_refl _)).trans HBM.out.2).trans (Mv.of_below HB5.out (Nat.le_refl _)))
              cases ask with
              | true =>
                go_wp2_with fail
                go_ret
                rw [HRV.out, HDP.out]
                refine ⟨rfl, ?_⟩
                have hx : beginM M ((k : Int) + 1) k i = { M with l := M.l.set k { goAt M k with beg := true } } := by unfold beginM; rw [← HASK.out, if_pos rfl]
                show DoneD m gm _ fc fs (beginM M ((k : Int) + 1) k i) ps _ Bs w _
                rw [hx]
                exact doneD_same HM5.out HMV.out (fun x hx => by rw [List.mem_singleton] at hx; rw [hx]; exact .inr (List.mem_of_getElem? HK.out.2.1))
              | false =>
                have g4 := HM5.out.five.2.2.2.2
                have f4 := HM5.out.head.frozen 4
                have HBO := Lib.hid (beg_own HM5.out (Nat.le_trans HS.out HMV.out.size) ((k : Int) + 1))
                have x1 : W5.cell? ⟨eb, 1, none⟩ = some (.int .i64 ((k : Int) + 1)) := by
                  have h1 : Blk W4 eb 43 (evArr ⟨1, k + 1, k1, m1, 0⟩) := by rw [HW4.out]; exact (HE.out.below HB3.out HE.out.lt).far (p := ⟨p, 15, none⟩) HEP.out _
                  exact ((h1.below HB5.out h1.lt).cell 1).trans rfl
                go_wp2_with fail
                go_ret
                rw [HRV.out, HDP.out]
                refine ⟨rfl, ?_⟩
                have hx : beginM M ((k : Int) + 1) k i = { M with l := M.l.set k { goAt M k with beg := true }, owner := (k : Int) + 1 } := by unfold beginM; rw [← HASK.out, if_neg (by decide)]
                show DoneD m gm _ fc fs (beginM M ((k : Int) + 1) k i) ps _ Bs w _
                rw [hx]
                exact doneD_same HBO.out.1 ((HMV.out.mono (L' := [gm, p]) (fun x hx _ => by rw [List.mem_singleton] at hx; simp [hx])).trans (HBO.out.2.mono (fun x hx _ => by rw [List.mem_singleton] at hx; simp [hx]))) (fun x hx => by
                  simp only [List.mem_cons, List.not_mem_nil, or_false] at hx
                  rcases hx with e | e
                  · exact .inl e
                  · rw [e]; exact .inr (List.mem_of_getElem? HK.out.2.1))
          · rw [if_neg (fun h => hen h.2.1)] at HDP
            have e0 : (en == 0) = false := by simpa using hen
            clear hen
            go_wp2_with fail
            go_ret
            rw [HRV.out, HDP.out]
            exact ⟨rfl, DoneD.none_ HM.out HS.out (HBW.out.trans (Below.mono HBX.out HBW.out.size))⟩
        · rw [if_neg (fun h => hk1 h.1)] at HDP
          have e1 : (kind == 1) = false := by simpa using hk1
          clear hk1
          go_wp2_with fail
          go_ret
          rw [HRV.out, HDP.out]
          exact ⟨rfl, DoneD.none_ HM.out HS.out (HBW.out.trans (Below.mono HBX.out HBW.out.size))⟩
    · have HP := Lib.hid (show doP fs M ⟨kind, k + 1, fn, pc, en⟩ = (M, false) by
        unfold doP
        simp only
        rw [if_pos HA.out, show ((k : Int) + 1 - 1).toNat = k by omega, HFP.out.1, HFP.out.2, if_neg hx])
      by_cases hx1 : (k1 : Int) = fn
      · have hx2 : ¬ (m1 : Int) = pc := fun e => hx ⟨hx1, e⟩
        have e2 : ((m1 : Int) != pc) = true := by simpa using hx2
        have e3 : ((m1 : Int) == pc) = false := by simpa using hx2
        have e4 : ((k1 : Int) != fn) = false := by simpa using hx1
        have e5 : ((k1 : Int) == fn) = true := by simpa using hx1
        clear hx hx1 hx2
        go_wp2_with fail
        refine region_calm (SB27 W) (by kernel_rfl) (by kernel_rfl) HD1.out ?_
        repeat (first | go_big_quiet_skip | (go_big_quiet_want; first | (go_big_quiet_op; first | go_big_quiet_on | ((first | with_reducible refine ⟨_, fun _ _ => rfl, ?_⟩); go_big_quiet_on)) | (simp (contextual := true) [go_sem, E2, E3, P0, P1]; with_reducible refine ⟨_, fun _ _ => rfl, ?_⟩; go_big_quiet_on)))
        refine wpQuiet_nil ?_
        intro W2 hW2
        have HB2 := Lib.hid (show SB27 W W2 from hW2)
        clear hW2
        go_wp2_with fail
        go_ret
        rw [HRV.out, HP.out]
        exact ⟨rfl, DoneD.none_ HM.out HS.out (HBW.out.trans (Below.mono HB2.out HBW.out.size))⟩
      · have e4 : ((k1 : Int) != fn) = true := by simpa using hx1
        have e5 : ((k1 : Int) == fn) = false := by simpa using hx1
        clear hx hx1
        go_wp2_with fail
        refine region_calm (SB27 W) (by kernel_rfl) (by kernel_rfl) HD1.out ?_
        repeat (first | go_big_quiet_skip | (go_big_quiet_want; first | (go_big_quiet_op; first | go_big_quiet_on | ((first | with_reducible refine ⟨_, fun _ _ => rfl, ?_⟩); go_big_quiet_on)) | (simp (contextual := true) [go_sem, E2, P0]; with_reducible refine ⟨_, fun _ _ => rfl, ?_⟩; go_big_quiet_on)))
        refine wpQuiet_nil ?_
        intro W2 hW2
        have HB2 := Lib.hid (show SB27 W W2 from hW2)
        clear hW2
        go_wp2_with fail
        go_ret
        rw [HRV.out, HP.out]
        exact ⟨rfl, DoneD.none_ HM.out HS.out (HBW.out.trans (Below.mono HB2.out HBW.out.size))⟩
  · have HP := Lib.hid (show doP fs M ⟨kind, g, fn, pc, en⟩ = (M, false) by unfold doP; rw [if_neg ha])
    have hf : actsP M g = false := by simpa using ha
    rw [hf] at HAC
    clear ha hf
    go_enter Tryd.func15, Tryd.ntmps15
    unfold evArr
    go_wp2_with fail
    rw [← hw, ← heb]
    clear hw heb
    refine HAC.out.mono ?_
    rintro e w1 ⟨rfl, rfl⟩
    go_wp2_with fail
    go_ret
    rw [HRV.out, HP.out]
    exact ⟨rfl, DoneD.none_ HM.out HS.out HBW.out⟩
end
end Go.Proofs.YtkfpnppppmccdaaDoor
namespace Go.Proofs.YtkfpnppppmccdaaDoor
open Go.RowKit
def outB (n most : Int) : Bool := decide (n < 1) || decide (most < n)
/-- What is wrong with a Conf. -/
def confF (p g m : Int) : Int := if outB p 256 || outB g 64 || outB m 64 then 2 else 0
theorem out_any (n most : Int) (w : World) : Calls Tryd.prog 45 #[.int .i64 n, .int .i64 most] w fun e w' => e = .returned (.bool (outB n most)) ∧ w = w' := by
  by_cases h : n < 1
  · have e : outB n most = true := by simp [outB, h]
    have h' : decide (n < 1) = true := by simpa using h
    rw [e]; clear e h
    go_enter Tryd.func45, Tryd.ntmps45
    go_wp2_with fail
    go_ret
    exact ⟨rfl, rfl⟩
  · have e : outB n most = decide (most < n) := by simp [outB]; omega
    have h' : decide (n < 1) = false := by simpa using h
    rw [e]; clear e h
    go_enter Tryd.func45, Tryd.ntmps45
    go_wp2_with fail
    go_ret
    exact ⟨rfl, rfl⟩
set_option maxHeartbeats 1000000 in
theorem conf_any (p g m : Int) (w : World) : Calls Tryd.prog 27 #[.agg #[.int .i64 p, .int .i64 g, .int .i64 m]] w fun e w' => e = .returned (.int .i64 (confF p g m)) ∧ Below w.heap.size w w' := by
  have hB : Below w.heap.size w (w.alloc (.cells #[.int .i64 p, .int .i64 g, .int .i64 m] 26)) := (Below.refl _ _).alloc (Nat.le_refl _) _
  unfold confF
  cases h1 : outB p 256
  · cases h2 : outB g 64
    · cases h3 : outB m 64
      all_goals
        go_enter Tryd.func27, Tryd.ntmps27
        go_wp2_with (go_at_call 45; refine (out_any _ _ _).mono ?_; rintro e w1 ⟨rfl, rfl⟩)
        go_ret
        exact ⟨rfl, hB⟩
    · go_enter Tryd.func27, Tryd.ntmps27
      go_wp2_with (go_at_call 45; refine (out_any _ _ _).mono ?_; rintro e w1 ⟨rfl, rfl⟩)
      go_ret
      exact ⟨rfl, hB⟩
  · go_enter Tryd.func27, Tryd.ntmps27
    go_wp2_with (go_at_call 45; refine (out_any _ _ _).mono ?_; rintro e w1 ⟨rfl, rfl⟩)
    go_ret
    exact ⟨rfl, hB⟩
theorem outB_split (n most : Int) : (decide (n < 1) = true ∧ outB n most = true) ∨ (decide (n < 1) = false ∧ decide (most < n) = true ∧ outB n most = true) ∨ (decide (n < 1) = false ∧ decide (most < n) = false ∧ outB n most = false) := by
  simp only [outB]
  cases decide (n < 1) <;> cases decide (most < n) <;> simp
set_option maxHeartbeats 2000000 in
theorem rconf_any (p g m : Int) (w : World) : Calls Tryd.prog 13 #[.agg #[.int .i64 p, .int .i64 g, .int .i64 m]] w fun e w' => e = .returned (.int .i64 (confF p g m)) ∧ Below w.heap.size w w' := by
  have hB : Below w.heap.size w (w.alloc (.cells #[.int .i64 p, .int .i64 g, .int .i64 m] 26)) := (Below.refl _ _).alloc (Nat.le_refl _) _
  unfold confF
  rcases outB_split p 256 with ⟨a1, e1⟩ | ⟨a1, b1, e1⟩ | ⟨a1, b1, e1⟩
  · rw [e1]; clear e1
    go_enter Tryd.func13, Tryd.ntmps13
    go_wp2_with fail
    go_ret
    exact ⟨rfl, hB⟩
  · rw [e1]; clear e1
    go_enter Tryd.func13, Tryd.ntmps13
    go_wp2_with fail
    go_ret
    exact ⟨rfl, hB⟩
  · rcases outB_split g 64 with ⟨a2, e2⟩ | ⟨a2, b2, e2⟩ | ⟨a2, b2, e2⟩
    · rw [e1, e2]; clear e1 e2
      go_enter Tryd.func13, Tryd.ntmps13
      go_wp2_with fail
      go_ret
      exact ⟨rfl, hB⟩
    · rw [e1, e2]; clear e1 e2
      go_enter Tryd.func13, Tryd.ntmps13
      go_wp2_with fail
      go_ret
      exact ⟨rfl, hB⟩
    · rcases outB_split m 64 with ⟨a3, e3⟩ | ⟨a3, b3, e3⟩ | ⟨a3, b3, e3⟩
      all_goals
        rw [e1, e2, e3]; clear e1 e2 e3
        go_enter Tryd.func13, Tryd.ntmps13
        go_wp2_with fail
        go_ret
        exact ⟨rfl, hB⟩
end Go.Proofs.YtkfpnppppmccdaaDoor
namespace Go.Proofs.YtkfpnppppmccdaaDoor
open Go.RowKit
def md0 (gs : Int) : Md := ⟨gs, [newGo 0 0], 0, 0⟩
/-- What is wrong with a program and a Conf. -/
def newF (fs : List Fn) (p g q : Int) : Int := if runB fs = true then confF p g q else 1
theorem md_new {w : World} {m gm pg lb : Nat} {F : Option Addr} {fc : Nat} {fs : List Fn} {gs : Int} (hb : Blk w gm 71 #[.slice F fs.length fc, .int .i64 gs, .slice (some ⟨lb, 0, none⟩) 1 1, .int .i64 0, .int .i64 0]) (hp : Blk w pg 68 (goArr (newGo 0 0) none 0)) (hl : Blk w lb 65 #[pptr pg])
    (h1 : gm ≠ pg) (h2 : lb ≠ gm) (h3 : lb ≠ pg) (hm : m ≤ gm ∧ m ≤ pg ∧ m ≤ lb) (hr : runB fs = true) (hf : FnsOk w m F fs) (hfl : fs.length ≤ maxLen) : MdIs w m gm F fc fs (md0 gs) [pg] (some ⟨lb, 0, none⟩) 1 [(none, 0)] := by
  have h0 : ∀ k, k < (md0 gs).l.length → k = 0 := fun k hk => by have : (md0 gs).l.length = 1 := rfl; omega
  have hown : Own w m 65 1 (some ⟨lb, 0, none⟩) 1 1 [pptr pg] := ⟨rfl, .inr ⟨lb, 1, #[pptr pg], rfl, hm.2.2, hl, Nat.le_refl _, by decide, rfl, rfl⟩⟩
  refine ⟨hb, rfl, rfl, hown, fun k hk => ?_, fun k hk => ?_, fun k hk hx => ?_, by simp, ⟨by simpa using h1, fun b hb' => ?_⟩, fun k hk => ?_, fun k hk => ?_, ⟨hf, hfl⟩, ⟨hm.1, fun p hp' => ?_⟩, by show 1 ≤ 100; decide⟩
  · obtain rfl := h0 k hk
    exact hp
  · obtain rfl := h0 k hk
    exact ⟨rfl, .inl rfl, Nat.zero_le _, by show (0 : Nat) ≤ 2 ^ 63 - 1; decide⟩
  · obtain rfl := h0 k hk
    exact absurd rfl hx
  · have : lb = b := by simpa [ob] using hb'
    subst this
    exact ⟨h2, by simpa using h3⟩
  · obtain rfl := h0 k hk
    exact new_fits hr (Int.le_refl _) (by have := (run_fn hr).1; omega) 0
  · obtain rfl := h0 k hk
    exact Nat.zero_le _
  · rw [List.mem_singleton] at hp'
    rw [hp']
    exact hm.2.1
def NewOut (w : World) (m : Nat) (F : Option Addr) (fc : Nat) (fs : List Fn) (p g q : Int) (e : Ending) (w' : World) : Prop :=
  Below w.heap.size w w' ∧ ((newF fs p g q ≠ 0 ∧ e = .returned (.tuple #[.pointer none, .int .i64 (newF fs p g q)])) ∨ (newF fs p g q = 0 ∧ ∃ gm pg L, e = .returned (.tuple #[.pointer (some ⟨gm, 0, none⟩), .int .i64 0]) ∧ MdIs w' m gm F fc fs (md0 g) [pg] L 1 [(none, 0)] ∧ w.heap.size ≤ gm ∧ w.heap.size ≤ pg ∧ ∀ b, ob L = some b → w.heap.size ≤ b))
set_option maxRecDepth 10000 in
set_option maxHeartbeats 2000000 in
theorem new27_any {w : World} {m : Nat} {F : Option Addr} {fc : Nat} {fs : List Fn} (hT : Tab w) (hs : m ≤ w.heap.size) (hf : FnsOk w m F fs) (hfl : fs.length ≤ maxLen) (p g q : Int) :
    Calls Tryd.prog 11 #[.agg #[.slice F fs.length fc], .agg #[.int .i64 p, .int .i64 g, .int .i64 q]] w (NewOut w m F fc fs p g q) := by
  obtain ⟨W, HW⟩ : ∃ W, Hid (W = (w.alloc (.cells #[.slice F fs.length fc] 24)).alloc (.cells #[.int .i64 p, .int .i64 g, .int .i64 q] 26)) := ⟨_, Lib.hid rfl⟩
  obtain ⟨gp, HGP⟩ : ∃ q, Hid (q = w.heap.size) := ⟨_, Lib.hid rfl⟩
  obtain ⟨gc, HGC⟩ : ∃ q, Hid (q = w.heap.size + 1) := ⟨_, Lib.hid rfl⟩
  have HBW := Lib.hid (show Below w.heap.size w W by rw [HW.out]; exact below2 w _ _)
  have HP := Lib.hid (show Blk W gp 24 #[.slice F fs.length fc] by rw [HW.out, HGP.out]; exact (Blk.new w _ _).alloc _)
  have HC := Lib.hid (show Blk W gc 26 #[.int .i64 p, .int .i64 g, .int .i64 q] by rw [HW.out, HGC.out]; exact heap_alloc2_new w _ _)
  have HF := Lib.hid hf
  have HT := Lib.hid hT
  have HS := Lib.hid hs
  have HFL := Lib.hid hfl
  have P0 : ∀ w', SB27 W w' → w'.cell? ⟨gp, 0, none⟩ = some (.slice F fs.length fc) := fun w' h => h.cell HP.out rfl
  have C0 : ∀ w', SB27 W w' → w'.cell? ⟨gc, 0, none⟩ = some (.int .i64 p) := fun w' h => h.cell HC.out rfl
  have C1 : ∀ w', SB27 W w' → w'.cell? ⟨gc, 1, none⟩ = some (.int .i64 g) := fun w' h => h.cell HC.out rfl
  have C2 : ∀ w', SB27 W w' → w'.cell? ⟨gc, 2, none⟩ = some (.int .i64 q) := fun w' h => h.cell HC.out rfl
  have HCK := Lib.hid (checkP_any F fc fs W (hT.step HBW.out) hfl ((hf.below (HBW.out.mono hs)).more (Nat.le_trans hs HBW.out.size)))
  have HCF := Lib.hid (conf_any p g q)
  have hw := HW.out
  have hgp := HGP.out
  have hgc : gc = gp + 1 := by rw [HGC.out, HGP.out]
  have p0 := P0 W (Below.refl _ _)
  obtain ⟨a, b, f, HTRI⟩ : ∃ a b f, Hid (checkP fs = (a, b, f)) := ⟨_, _, _, Lib.hid rfl⟩
  rw [HTRI.out] at HCK
  have HRB := Lib.hid (show runB fs = decide (f = 0) by unfold runB; rw [HTRI.out])
  unfold tri at HCK
  simp only at HCK
  clear hT hs hf hfl
  by_cases hf0 : f = 0
  · have ef : (f == 0) = true := by simpa using hf0
    have ef2 : (f != 0) = false := by simpa using hf0
    have HR := Lib.hid (show runB fs = true by rw [HRB.out]; exact decide_eq_true hf0)
    have HNF := Lib.hid (show newF fs p g q = confF p g q by unfold newF; rw [if_pos HR.out])
    obtain ⟨cv, HCV⟩ : ∃ cv, Hid (cv = confF p g q) := ⟨_, Lib.hid rfl⟩
    rw [← HCV.out] at HNF
    simp only [← HCV.out] at HCF
    clear hf0
    by_cases hc0 : cv = 0
    · have ec : (cv == 0) = true := by simpa using hc0
      have ec2 : (cv != 0) = false := by simpa using hc0
      rw [hc0] at HNF
      clear hc0
      go_enter Tryd.func11, Tryd.ntmps11
      go_wp2_with fail
      rw [← hw]
      rw [← hgp]; simp only [← hgc]
      clear hw hgp hgc
      refine HCK.out.mono ?_
      rintro e W1 ⟨rfl, hb1⟩
      have HB1 := Lib.hid (show SB27 W W1 from hb1)
      clear hb1
      have c0 := C0 W1 HB1.out
      have c1 := C1 W1 HB1.out
      have c2 := C2 W1 HB1.out
      go_wp2_with fail
      refine (HCF.out W1).mono ?_
      rintro e W2 ⟨rfl, hb2⟩
      have HB2 := Lib.hid (show SB27 W W2 from HB1.out.trans (hb2.mono HB1.out.size))
      have HD2 := Lib.hid (show SB27 W W2.drew from HB2.out.drew)
      clear hb2 c0 c1 c2
      go_wp2_with fail
      have LP : ∀ w', SB27 W w' → (loadVar 24 ⟨gp, 0, none⟩).run Tryd.prog w' = .ok (.agg #[.slice F fs.length fc]) w' := fun w' h => run_loadVar_cells w' gp 0 _ _ _ (fun j v hv => by
        have hj : j = 0 := by
          have := (Array.getElem?_eq_some_iff.1 hv).1
          simp at this
          omega
        subst hj
        rw [← hv]
        exact h.cell HP.out rfl) Tryd.underlying24 rfl (Tryd.infoPr1 _)
      refine region_sch (SB27 W) [([0, 1, 2], 3), ([4], 5), ([], 6), ([7], 8)] [9, 10] (by kernel_rfl) (by kernel_rfl) (by kernel_rfl) (fun _ _ d _ _ h => by cases d <;> exact h) HD2.out ?_
      (try simp only [Act.put, List.setIfInBounds_toArray, List.set_cons_zero, List.set_cons_succ]); refine sch_seg ?_; simp only [pickOps, List.getElem?_toArray, List.getElem?_cons_zero, List.getElem?_cons_succ]; (repeat (first | (refine quiet_load_at (by rfl) 24 _ rfl ⟨gp, 0, none⟩ rfl #[.slice F fs.length fc] LP ?_; simp only [Act.put, List.setIfInBounds_toArray, List.set_cons_zero, List.set_cons_succ]) | go_big_quiet_skip | (go_big_quiet_want; first | (go_big_quiet_op; first | go_big_quiet_on | ((first | with_reducible refine ⟨_, fun _ _ => rfl, ?_⟩); go_big_quiet_on)) | (simp (contextual := true) [go_sem, C1]; with_reducible refine ⟨_, fun _ _ => rfl, ?_⟩; go_big_quiet_on)))); refine wpQuiet_nil ?_
      clear P0 C0 C1 C2 LP p0
      go_wp2_with (go_at_call 28; refine (vmNew_any 0 0 _).mono ?_; rintro e W3 ⟨rfl, hb3⟩)
      have HB3 := Lib.hid (show SB27 W W3 from HD2.out.trans (hb3.mono HD2.out.size))
      clear hb3
      refine ⟨SB27 W, HB3.out, fun _ h => h, ?_⟩
      (try simp only [Act.put, List.setIfInBounds_toArray, List.set_cons_zero, List.set_cons_succ]); refine sch_seg ?_
      simp only [pickOps, List.getElem?_toArray, List.getElem?_cons_zero, List.getElem?_cons_succ]
      go_big_quiet_want
      simp (contextual := true) [go_sem, thArr]
      refine ⟨.agg (goArr (newGo 0 0) none 0), fun _ _ => rfl, ?_⟩
      go_big_quiet_on
      refine wpQuiet_nil ?_
      go_wp2_with fail
      obtain ⟨W4, HW4⟩ : ∃ X, Hid (X = W3.alloc (.cells (goArr (newGo 0 0) none 0) 68)) := ⟨_, Lib.hid rfl⟩
      obtain ⟨pg, HPG⟩ : ∃ q, Hid (q = W3.heap.size) := ⟨_, Lib.hid rfl⟩
      have HB4 := Lib.hid (show SB27 W W4 by rw [HW4.out]; exact HB3.out.alloc HB3.out.size _)
      have HG4 := Lib.hid (show Blk W4 pg 68 (goArr (newGo 0 0) none 0) by rw [HW4.out, HPG.out]; exact Blk.new _ _ _)
      rw [← HW4.out, ← HPG.out]
      refine ⟨SB27 W, HB4.out, fun _ h => h, ?_⟩
      (try simp only [Act.put, List.setIfInBounds_toArray, List.set_cons_zero, List.set_cons_succ]); refine sch_seg ?_; simp only [pickOps, List.getElem?_toArray, List.getElem?_cons_zero, List.getElem?_cons_succ]; (repeat (first | go_big_quiet_skip | (go_big_quiet_want; first | (go_big_quiet_op; first | go_big_quiet_on | ((first | with_reducible refine ⟨_, fun _ _ => rfl, ?_⟩); go_big_quiet_on)) | (simp (contextual := true) [go_sem, HD2]; with_reducible refine ⟨_, fun _ _ => rfl, ?_⟩; go_big_quiet_on)))); refine wpQuiet_nil ?_
      go_wp2_with fail
      obtain ⟨W5, HW5⟩ : ∃ X, Hid (X = W4.alloc (.cells #[.pointer (some ⟨pg, 0, none⟩)] 65)) := ⟨_, Lib.hid rfl⟩
      obtain ⟨lb, HLB⟩ : ∃ q, Hid (q = W4.heap.size) := ⟨_, Lib.hid rfl⟩
      have HB5 := Lib.hid (show SB27 W W5 by rw [HW5.out]; exact HB4.out.alloc HB4.out.size _)
      have HG5 := Lib.hid (show Blk W5 pg 68 (goArr (newGo 0 0) none 0) by rw [HW5.out]; exact HG4.out.alloc _)
      have HL5 := Lib.hid (show Blk W5 lb 65 #[.pointer (some ⟨pg, 0, none⟩)] by rw [HW5.out, HLB.out]; exact Blk.new _ _ _)
      rw [← HW5.out, ← HLB.out]
      refine ⟨SB27 W, HB5.out, fun _ h => h, ?_⟩
      (try simp only [Act.put, List.setIfInBounds_toArray, List.set_cons_zero, List.set_cons_succ]); refine sch_seg ?_; simp only [pickOps, List.getElem?_toArray, List.getElem?_cons_zero, List.getElem?_cons_succ]; (repeat (first | go_big_quiet_skip | (go_big_quiet_want; first | (go_big_quiet_op; first | go_big_quiet_on | ((first | with_reducible refine ⟨_, fun _ _ => rfl, ?_⟩); go_big_quiet_on)) | (simp (contextual := true) [go_sem, HD2]; with_reducible refine ⟨_, fun _ _ => rfl, ?_⟩; go_big_quiet_on)))); refine wpQuiet_nil ?_
      go_wp2_with fail
      obtain ⟨W6, HW6⟩ : ∃ X, Hid (X = W5.alloc (.cells #[.slice F fs.length fc, .int .i64 g, .slice (some ⟨lb, 0, none⟩) 1 1, .int .i64 0, .int .i64 0] 71)) := ⟨_, Lib.hid rfl⟩
      obtain ⟨gm, HGM⟩ : ∃ q, Hid (q = W5.heap.size) := ⟨_, Lib.hid rfl⟩
      have HB6 := Lib.hid (show SB27 W W6 by rw [HW6.out]; exact HB5.out.alloc HB5.out.size _)
      have HG6 := Lib.hid (show Blk W6 pg 68 (goArr (newGo 0 0) none 0) by rw [HW6.out]; exact HG5.out.alloc _)
      have HL6 := Lib.hid (show Blk W6 lb 65 #[.pointer (some ⟨pg, 0, none⟩)] by rw [HW6.out]; exact HL5.out.alloc _)
      have HM6 := Lib.hid (show Blk W6 gm 71 #[.slice F fs.length fc, .int .i64 g, .slice (some ⟨lb, 0, none⟩) 1 1, .int .i64 0, .int .i64 0] by rw [HW6.out, HGM.out]; exact Blk.new _ _ _)
      rw [← HW6.out, ← HGM.out]
      refine ⟨SB27 W, HB6.out, fun _ h => h, ?_⟩
      (try simp only [Act.put, List.setIfInBounds_toArray, List.set_cons_zero, List.set_cons_succ]); refine sch_end ?_; simp only [pickOps, List.getElem?_toArray, List.getElem?_cons_zero, List.getElem?_cons_succ]; (repeat (first | go_big_quiet_skip | (go_big_quiet_want; first | (go_big_quiet_op; first | go_big_quiet_on | ((first | with_reducible refine ⟨_, fun _ _ => rfl, ?_⟩); go_big_quiet_on)) | (simp (contextual := true) [go_sem, HD2]; with_reducible refine ⟨_, fun _ _ => rfl, ?_⟩; go_big_quiet_on)))); refine wpQuiet_nil ?_
      have z4 : W4.heap.size = W3.heap.size + 1 := by rw [HW4.out, World.size_alloc]
      have z5 : W5.heap.size = W4.heap.size + 1 := by rw [HW5.out, World.size_alloc]
      have z3 := HB3.out.size
      have z0 := HBW.out.size
      have s0 := HS.out
      have g1 := HPG.out
      have g2 := HLB.out
      have g3 := HGM.out
      have HMD := Lib.hid (md_new HM6.out HG6.out HL6.out (by omega) (by omega) (by omega) ⟨by omega, by omega, by omega⟩ HR.out (HF.out.below ((HBW.out.trans (HB6.out.mono HBW.out.size)).mono HS.out)) HFL.out : MdIs W6 m gm F fc fs (md0 g) [pg] (some ⟨lb, 0, none⟩) 1 [(none, 0)])
      have HZ := Lib.hid (show w.heap.size ≤ gm ∧ w.heap.size ≤ pg ∧ w.heap.size ≤ lb from ⟨by omega, by omega, by omega⟩)
      clear z4 z5 z3 z0 s0 g1 g2 g3
      go_wp2_with fail
      go_ret2
      exact ⟨HBW.out.trans (HB6.out.mono HBW.out.size), .inr ⟨HNF.out, gm, pg, _, rfl, HMD.out, HZ.out.1, HZ.out.2.1, fun b hb => by
        have : lb = b := by simpa [ob] using hb
        rw [← this]
        exact HZ.out.2.2⟩⟩
    · have ec : (cv == 0) = false := by simpa using hc0
      have ec2 : (cv != 0) = true := by simpa using hc0
      have HNE := Lib.hid (show newF fs p g q ≠ 0 by rw [HNF.out]; exact hc0)
      clear hc0
      go_enter Tryd.func11, Tryd.ntmps11
      go_wp2_with fail
      rw [← hw]
      rw [← hgp]; simp only [← hgc]
      clear hw hgp hgc
      refine HCK.out.mono ?_
      rintro e W1 ⟨rfl, hb1⟩
      have HB1 := Lib.hid (show SB27 W W1 from hb1)
      clear hb1
      have c0 := C0 W1 HB1.out
      have c1 := C1 W1 HB1.out
      have c2 := C2 W1 HB1.out
      go_wp2_with (go_at_call 27; refine (HCF.out W1).mono ?_; rintro e W2 ⟨rfl, hb2⟩; have HB2 := Lib.hid (show SB27 W W2 from HB1.out.trans (hb2.mono HB1.out.size)); clear hb2)
      go_ret2
      exact ⟨HBW.out.trans (HB2.out.mono HBW.out.size), .inl ⟨HNE.out, by rw [HNF.out]; rfl⟩⟩
  · have ef : (f == 0) = false := by simpa using hf0
    have ef2 : (f != 0) = true := by simpa using hf0
    have HNF := Lib.hid (show newF fs p g q = 1 by unfold newF; rw [HRB.out, if_neg (by simpa using hf0)])
    clear hf0
    go_enter Tryd.func11, Tryd.ntmps11
    go_wp2_with fail
    rw [← hw]
    rw [← hgp]; simp only [← hgc]
    clear hw hgp hgc
    refine HCK.out.mono ?_
    rintro e W1 ⟨rfl, hb1⟩
    have HB1 := Lib.hid (show SB27 W W1 from hb1)
    clear hb1
    go_wp2_with fail
    go_ret2
    exact ⟨HBW.out.trans (HB1.out.mono HBW.out.size), .inl ⟨by rw [HNF.out]; decide, by rw [HNF.out]; rfl⟩⟩
end Go.Proofs.YtkfpnppppmccdaaDoor
namespace Go.Proofs.YtkfpnppppmccdaaDoor
open Go.RowKit
section
variable {P : Program}
theorem run_loadVar_sub (w : World) (g off : Nat) (t ty : TypeId) (X cs : Array Value) (d : TypeDesc) (hg : Blk w g t X) (hs : ∀ j, j < cs.size → X[off + j]? = cs[j]?)
    (hu : P.underlying ty = some d) (hd : (match d with | .struct _ | .array _ _ => true | _ => false) = true) (hi : (P.info? ty).map (·.size) = some cs.size) :
    (loadVar ty ⟨g, off, none⟩).run P w = .ok (.agg cs) w := by
  have hl : (loadCells ⟨g, off, none⟩ cs.toList.length).run P w = .ok cs.toList.toArray w :=
    run_loadCells_list (P := P) w ⟨g, off, none⟩ cs.toList (fun j v hv => by
      have hj : j < cs.size := by have := (List.getElem?_eq_some_iff.1 hv).1; simpa using this
      rw [Addr.add_lit, hg.cell, hs j hj]
      simpa using hv)
  cases hq : P.info? ty with
  | none => simp [hq] at hi
  | some i =>
    have hsz : i.size = cs.size := by simpa [hq] using hi
    have hagg : (isAgg ty).run P w = .ok true w := by
      unfold isAgg
      rw [Sem.run_bind, run_underlying hu w]
      cases d <;> simp_all
    simp only [Array.length_toList, Array.toArray_toList] at hl
    simp [loadVar, Sem.run_bind, hagg, sizeOf, typeInfo, hq, hsz, hl]
theorem wpList_load_subW {ops : Array Oper} {rest : List Oper} {o : Oper} {a : Act} {w : World} {Q : Exit → Act → World → Prop} (hw : Region.wanted o (yielded ops a.tmps) = true) (ty : TypeId) (x : Operand) (ho : o.op = .load ty x)
    (g off : Nat) (hx : a.eval x = .pointer (some ⟨g, off, none⟩)) (t : TypeId) (X cs : Array Value) (d : TypeDesc) (hg : Blk w g t X) (hs : ∀ j, j < cs.size → X[off + j]? = cs[j]?)
    (hu : P.underlying ty = some d) (hd : (match d with | .struct _ | .array _ _ => true | _ => false) = true) (hi : (P.info? ty).map (·.size) = some cs.size)
    (h : wpList P ops Q rest (a.put o.dst (.agg cs)) w) : wpList P ops Q (o :: rest) a w :=
  wpList_wanted hw fun _ hK => by
    unfold Oper.wp execOp
    simp only [ho, hx, Instr.loadAt, Instr.sureAddr, Sem.run_bind, Sem.run_pure, Result.andThen_ok, run_loadVar_sub w g off t ty X cs d hg hs hu hd hi]
    exact hK _ _ h
end
section
variable {w : World} {m gm : Nat} {F : Option Addr} {fc : Nat} {fs : List Fn} {M : Md} {ps : List Nat} {L : Option Addr} {c : Nat} {Bs : List (Option Addr × Nat)}
theorem holder27_any (h : MdIs w m gm F fc fs M ps L c Bs) : Calls Tryd.prog 14 #[.pointer (some ⟨gm, 0, none⟩)] w fun e w' => e = .returned (.int .i64 M.holder) ∧ w = w' := by
  obtain ⟨-, -, -, q3, q4⟩ := h.five
  clear h
  go_enter Tryd.func14, Tryd.ntmps14
  go_wp2_with fail
  go_ret
  exact ⟨rfl, rfl⟩
theorem holder27_nil (w : World) : Calls Tryd.prog 14 #[.pointer none] w fun e w' => e = .returned (.int .i64 0) ∧ w = w' := by
  go_enter Tryd.func14, Tryd.ntmps14
  go_wp2_with fail
  go_ret
  exact ⟨rfl, rfl⟩
theorem owner27_any (h : MdIs w m gm F fc fs M ps L c Bs) : Calls Tryd.prog 16 #[.pointer (some ⟨gm, 0, none⟩)] w fun e w' => e = .returned (.int .i64 M.owner) ∧ w = w' := by
  obtain ⟨-, -, -, q3, q4⟩ := h.five
  clear h
  go_enter Tryd.func16, Tryd.ntmps16
  go_wp2_with fail
  go_ret
  exact ⟨rfl, rfl⟩
theorem owner27_nil (w : World) : Calls Tryd.prog 16 #[.pointer none] w fun e w' => e = .returned (.int .i64 0) ∧ w = w' := by
  go_enter Tryd.func16, Tryd.ntmps16
  go_wp2_with fail
  go_ret
  exact ⟨rfl, rfl⟩
theorem count27_any (h : MdIs w m gm F fc fs M ps L c Bs) : Calls Tryd.prog 23 #[.pointer (some ⟨gm, 0, none⟩)] w fun e w' => e = .returned (.int .i64 M.l.length) ∧ w = w' := by
  obtain ⟨-, -, q2, -, -⟩ := h.five
  rw [← h.lp]
  clear h
  go_enter Tryd.func23, Tryd.ntmps23
  go_wp2_with fail
  go_ret
  exact ⟨rfl, rfl⟩
theorem count27_nil (w : World) : Calls Tryd.prog 23 #[.pointer none] w fun e w' => e = .returned (.int .i64 0) ∧ w = w' := by
  go_enter Tryd.func23, Tryd.ntmps23
  go_wp2_with fail
  go_ret
  exact ⟨rfl, rfl⟩
/-- A flag of a goroutine; false: it is not there. -/
def flagP (M : Md) (f : Go → Bool) (g : Int) : Bool := match getM M g with
  | none => false
  | some k => f (goAt M k)
theorem blocked27_any (h : MdIs w m gm F fc fs M ps L c Bs) (g : Int) : Calls Tryd.prog 24 #[.pointer (some ⟨gm, 0, none⟩), .int .i64 g] w fun e w' => e = .returned (.bool (flagP M (·.blk) g)) ∧ w = w' := by
  have HG := Lib.hid (get_any h g)
  unfold flagP
  cases hg : getM M g with
  | none =>
    rw [hg] at HG
    simp only [gVal] at HG ⊢
    clear h hg
    go_enter Tryd.func24, Tryd.ntmps24
    go_wp2_with (go_at_call 35; refine HG.out.mono ?_; rintro e w1 ⟨rfl, rfl⟩)
    go_ret
    exact ⟨rfl, rfl⟩
  | some k =>
    obtain ⟨p, -, hp, hc⟩ := h.go (getM_lt hg).1
    rw [hg, hp] at HG
    have d := hc.blk
    simp only
    generalize (goAt M k).blk = d1 at d ⊢
    clear h hg hp hc
    go_enter Tryd.func24, Tryd.ntmps24
    go_wp2_with (go_at_call 35; refine HG.out.mono ?_; rintro e w1 ⟨rfl, rfl⟩)
    go_ret
    exact ⟨rfl, rfl⟩
theorem blocked27_nil (g : Int) (w : World) : Calls Tryd.prog 24 #[.pointer none, .int .i64 g] w fun e w' => e = .returned (.bool false) ∧ w = w' := by
  go_enter Tryd.func24, Tryd.ntmps24
  go_wp2_with (go_at_call 35; refine (get_nil _ _).mono ?_; rintro e w1 ⟨rfl, rfl⟩)
  go_ret
  exact ⟨rfl, rfl⟩
theorem suspended27_any (h : MdIs w m gm F fc fs M ps L c Bs) (g : Int) : Calls Tryd.prog 17 #[.pointer (some ⟨gm, 0, none⟩), .int .i64 g] w fun e w' => e = .returned (.bool (flagP M (·.sus) g)) ∧ w = w' := by
  have HG := Lib.hid (get_any h g)
  unfold flagP
  cases hg : getM M g with
  | none =>
    rw [hg] at HG
    simp only [gVal] at HG ⊢
    clear h hg
    go_enter Tryd.func17, Tryd.ntmps17
    go_wp2_with (go_at_call 35; refine HG.out.mono ?_; rintro e w1 ⟨rfl, rfl⟩)
    go_ret
    exact ⟨rfl, rfl⟩
  | some k =>
    obtain ⟨p, -, hp, hc⟩ := h.go (getM_lt hg).1
    rw [hg, hp] at HG
    have d := hc.sus
    simp only
    generalize (goAt M k).sus = d1 at d ⊢
    clear h hg hp hc
    go_enter Tryd.func17, Tryd.ntmps17
    go_wp2_with (go_at_call 35; refine HG.out.mono ?_; rintro e w1 ⟨rfl, rfl⟩)
    go_ret
    exact ⟨rfl, rfl⟩
theorem suspended27_nil (g : Int) (w : World) : Calls Tryd.prog 17 #[.pointer none, .int .i64 g] w fun e w' => e = .returned (.bool false) ∧ w = w' := by
  go_enter Tryd.func17, Tryd.ntmps17
  go_wp2_with (go_at_call 35; refine (get_nil _ _).mono ?_; rintro e w1 ⟨rfl, rfl⟩)
  go_ret
  exact ⟨rfl, rfl⟩
theorem begun27_any (h : MdIs w m gm F fc fs M ps L c Bs) (g : Int) : Calls Tryd.prog 25 #[.pointer (some ⟨gm, 0, none⟩), .int .i64 g] w fun e w' => e = .returned (.bool (flagP M (·.beg) g)) ∧ w = w' := by
  have HG := Lib.hid (get_any h g)
  unfold flagP
  cases hg : getM M g with
  | none =>
    rw [hg] at HG
    simp only [gVal] at HG ⊢
    clear h hg
    go_enter Tryd.func25, Tryd.ntmps25
    go_wp2_with (go_at_call 35; refine HG.out.mono ?_; rintro e w1 ⟨rfl, rfl⟩)
    go_ret
    exact ⟨rfl, rfl⟩
  | some k =>
    obtain ⟨p, -, hp, hc⟩ := h.go (getM_lt hg).1
    rw [hg, hp] at HG
    have d := hc.beg
    simp only
    generalize (goAt M k).beg = d1 at d ⊢
    clear h hg hp hc
    go_enter Tryd.func25, Tryd.ntmps25
    go_wp2_with (go_at_call 35; refine HG.out.mono ?_; rintro e w1 ⟨rfl, rfl⟩)
    go_ret
    exact ⟨rfl, rfl⟩
theorem begun27_nil (g : Int) (w : World) : Calls Tryd.prog 25 #[.pointer none, .int .i64 g] w fun e w' => e = .returned (.bool false) ∧ w = w' := by
  go_enter Tryd.func25, Tryd.ntmps25
  go_wp2_with (go_at_call 35; refine (get_nil _ _).mono ?_; rintro e w1 ⟨rfl, rfl⟩)
  go_ret
  exact ⟨rfl, rfl⟩
theorem own_thok {w : World} {base : Nat} {t : Th} {A : Option Addr} {c : Nat} (hr : t.regs.length = 8) (hO : Own w base 105 2 A t.stack.length c (t.stack.flatMap frVals)) : ThOk w w.heap.size t A c := by
  refine ⟨hr, hO.rowN, ?_, ?_⟩
  · rcases hO.2 with ⟨_, h0⟩ | ⟨_, cap, _, hv, _, _, hnc, _⟩
    · omega
    · injection hv with _ _ h3
      omega
  · rcases hO.2 with ⟨hv, h0⟩ | ⟨_, cap, _, hv, _, _, _, hcm, _⟩
    · injection hv with _ _ h3
      rw [h3]
      unfold maxLen
      omega
    · injection hv with _ _ h3
      omega
def zeroTh : Th := ⟨0, 0, [0, 0, 0, 0, 0, 0, 0, 0], [], false⟩
/-- A thread that is told: is it there? -/
def ThreadOut (w : World) (M : Md) (g : Int) (e : Ending) (w' : World) : Prop :=
  Below w.heap.size w w' ∧ match getM M g with
  | none => e = .returned (.tuple #[.agg (thArr zeroTh none 0), .bool false])
  | some k => ∃ A c, e = .returned (.tuple #[.agg (thArr (goAt M k).th A c), .bool true]) ∧ ThOk w' w'.heap.size (goAt M k).th A c
set_option maxHeartbeats 1000000 in
theorem thread27_any (h : MdIs w m gm F fc fs M ps L c Bs) (hs : m ≤ w.heap.size) (g : Int) : Calls Tryd.prog 21 #[.pointer (some ⟨gm, 0, none⟩), .int .i64 g] w (ThreadOut w M g) := by
  obtain ⟨W, HW⟩ : ∃ W, Hid (W = w.alloc (.cells (thArr zeroTh none 0) 56)) := ⟨_, Lib.hid rfl⟩
  obtain ⟨q, HQ⟩ : ∃ q, Hid (q = w.heap.size) := ⟨_, Lib.hid rfl⟩
  have HBW := Lib.hid (show Below w.heap.size w W by rw [HW.out]; exact (Below.refl w.heap.size w).alloc (Nat.le_refl _) _)
  have HQW := Lib.hid (show Blk W q 56 (thArr zeroTh none 0) by rw [HW.out, HQ.out]; exact Blk.new _ _ _)
  have HMW := Lib.hid (h.step HBW.out hs)
  have HG := Lib.hid (get_any HMW.out g)
  have hw : W = w.alloc (.cells #[.int .i64 0, .int .i64 0, .int .i64 0, .int .i64 0, .int .i64 0, .int .i64 0, .int .i64 0, .int .i64 0, .int .i64 0, .int .i64 0, .slice none 0 0, .bool false] 56) := HW.out
  have hq := HQ.out
  unfold ThreadOut
  cases hg : getM M g with
  | none =>
    rw [hg] at HG
    simp only [gVal] at HG ⊢
    clear h hg hs
    go_enter Tryd.func21, Tryd.ntmps21
    go_wp2_with fail
    rw [← hw, ← hq]
    clear hw hq
    refine HG.out.mono ?_
    rintro e w1 ⟨rfl, rfl⟩
    go_wp2_with (refine wpList_store_row rfl 56 _ _ rfl q (thArr zeroTh none 0) rfl rfl 56 _ HQW.out Tryd.infoTh rfl (thArr_one zeroTh none 0) ?_)
    exact bodyPost_ret (results_cell2 Tryd.results21 _ _ q 56 (thArr zeroTh none 0) (0, 0) _ rfl (HQW.out.setRow _) Tryd.underlying56 rfl Tryd.infoTh) rfl ⟨below_setRow HBW.out (by rw [HQ.out]; exact Nat.le_refl _) HBW.out.size _, rfl⟩
  | some k =>
    have hk := (getM_lt hg).1
    obtain ⟨p, hp, hpv, hc⟩ := HMW.out.go hk
    rw [hg, hpv] at HG
    obtain ⟨B, d, hb, ht, -, hst⟩ := HMW.out.thAt hk hp
    have HB := Lib.hid hb
    have HT := Lib.hid ht
    have HST := Lib.hid hst
    have HSUB := Lib.hid (show ∀ j, j < (thArr (goAt M k).th B d).size → (goArr (goAt M k) B d)[0 + j]? = (thArr (goAt M k).th B d)[j]? from fun j hj => by
      rw [thArr_size B d ht.regs] at hj
      rw [Nat.zero_add]
      exact goArr_th _ B d ht.regs j hj)
    have HSZ := Lib.hid (show (Tryd.prog.info? 56).map (·.size) = some (thArr (goAt M k).th B d).size by rw [thArr_size B d ht.regs]; exact Tryd.infoTh)
    simp only
    generalize (goAt M k).th = t at *
    clear h hg hs hp hpv hc hb ht hst hk
    go_enter Tryd.func21, Tryd.ntmps21
    go_wp2_with fail
    rw [← hw, ← hq]
    clear hw hq
    refine HG.out.mono ?_
    rintro e w1 ⟨rfl, rfl⟩
    go_wp2_with (refine wpList_load_subW (by rfl) 56 _ rfl p 0 rfl 68 _ (thArr t B d) _ HB.out HSUB.out Tryd.underlying56 rfl HSZ.out ?_)
    refine (vmClone_any t B d W (by have := HST.out; omega) HT.out).mono ?_
    rintro e w3 ⟨A3, c3, rfl, hO3, hb3⟩
    have HQ3 := Lib.hid (HQW.out.below hb3 HQW.out.lt)
    have HO3 := Lib.hid hO3
    have HB3 := Lib.hid (HBW.out.trans (hb3.mono HBW.out.size))
    have HSZ3 := Lib.hid (show (Tryd.prog.info? 56).map (·.size) = some (thArr t A3 c3).size by rw [thArr_size A3 c3 HT.out.regs]; exact Tryd.infoTh)
    have HQL := Lib.hid HQW.out.lt
    clear hO3 hb3
    go_wp2_with (refine wpList_store_row rfl 56 _ _ rfl q (thArr t A3 c3) rfl rfl 56 _ HQ3.out HSZ3.out (by rw [thArr_size A3 c3 HT.out.regs]; rfl) (thArr_one t A3 c3) ?_)
    exact bodyPost_ret (results_cell2 Tryd.results21 _ _ q 56 (thArr t A3 c3) (0, 0) _ rfl (HQ3.out.setRow _) Tryd.underlying56 rfl HSZ3.out) rfl ⟨below_setRow HB3.out (by rw [HQ.out]; exact Nat.le_refl _) HB3.out.size _, A3, c3, rfl, own_thok HT.out.regs (own_setRow HO3.out HQL.out _)⟩
theorem thread27_nil (g : Int) (w : World) : Calls Tryd.prog 21 #[.pointer none, .int .i64 g] w fun e w' => e = .returned (.tuple #[.agg (thArr zeroTh none 0), .bool false]) ∧ Below w.heap.size w w' := by
  obtain ⟨W, HW⟩ : ∃ W, Hid (W = w.alloc (.cells (thArr zeroTh none 0) 56)) := ⟨_, Lib.hid rfl⟩
  obtain ⟨q, HQ⟩ : ∃ q, Hid (q = w.heap.size) := ⟨_, Lib.hid rfl⟩
  have HBW := Lib.hid (show Below w.heap.size w W by rw [HW.out]; exact (Below.refl w.heap.size w).alloc (Nat.le_refl _) _)
  have HQW := Lib.hid (show Blk W q 56 (thArr zeroTh none 0) by rw [HW.out, HQ.out]; exact Blk.new _ _ _)
  have hw : W = w.alloc (.cells #[.int .i64 0, .int .i64 0, .int .i64 0, .int .i64 0, .int .i64 0, .int .i64 0, .int .i64 0, .int .i64 0, .int .i64 0, .int .i64 0, .slice none 0 0, .bool false] 56) := HW.out
  have hq := HQ.out
  go_enter Tryd.func21, Tryd.ntmps21
  go_wp2_with fail
  rw [← hw, ← hq]
  clear hw hq
  refine (get_nil _ _).mono ?_
  rintro e w1 ⟨rfl, rfl⟩
  go_wp2_with (refine wpList_store_row rfl 56 _ _ rfl q (thArr zeroTh none 0) rfl rfl 56 _ HQW.out Tryd.infoTh rfl (thArr_one zeroTh none 0) ?_)
  exact bodyPost_ret (results_cell2 Tryd.results21 _ _ q 56 (thArr zeroTh none 0) (0, 0) _ rfl (HQW.out.setRow _) Tryd.underlying56 rfl Tryd.infoTh) rfl ⟨rfl, below_setRow HBW.out (by rw [HQ.out]; exact Nat.le_refl _) HBW.out.size _⟩
end
end Go.Proofs.YtkfpnppppmccdaaDoor
namespace Go.Proofs.YtkfpnppppmccdaaDoor
open Go.RowKit
/-- Is there an event of g that is allowed? -/
def canP (fs : List Fn) (M : Md) (g : Int) : Bool :=
  if actsP M g = true then
    let k := (g - 1).toNat
    let i := insAt fs (goAt M k).th.fn (goAt M k).th.pc
    commitsP M g k i || beginsP M k i
  else false
section
variable {w : World} {m gm : Nat} {F : Option Addr} {fc : Nat} {fs : List Fn} {M : Md} {ps : List Nat} {L : Option Addr} {c : Nat} {Bs : List (Option Addr × Nat)}
theorem can27_nil (g : Int) (w : World) : Calls Tryd.prog 22 #[.pointer none, .int .i64 g] w fun e w' => e = .returned (.bool false) ∧ w = w' := by
  go_enter Tryd.func22, Tryd.ntmps22
  go_wp2_with fail
  go_ret
  exact ⟨rfl, rfl⟩
set_option maxRecDepth 10000 in
set_option maxHeartbeats 2000000 in
theorem can27_any (h : MdIs w m gm F fc fs M ps L c Bs) (hs : m ≤ w.heap.size) (g : Int) :
    Calls Tryd.prog 22 #[.pointer (some ⟨gm, 0, none⟩), .int .i64 g] w fun r w' => r = .returned (.bool (canP fs M g)) ∧ Below w.heap.size w w' := by
  obtain ⟨rv, HRV⟩ : ∃ rv : Bool, Hid (rv = canP fs M g) := ⟨_, Lib.hid rfl⟩
  rw [← HRV.out]
  have HAC := Lib.hid (acts_any h g)
  have HM := Lib.hid h
  have HS := Lib.hid hs
  by_cases ha : actsP M g = true
  · rw [ha] at HAC
    obtain ⟨k, -, hk, rfl, hnd⟩ := acts_get ha
    obtain ⟨k1, m1, b1, off1, b2, off2, an, ac, hfn, hpc, hk1, hm1, hm64, han, rfl, hb1, hb2, hrun, ⟨pls, hins⟩, f1, fi⟩ := h.fetch hk hnd
    obtain ⟨p, hp, hpv, hc⟩ := h.go hk
    obtain ⟨b, rfl, hmb, hbl, hcell⟩ := h.ptr k hk
    obtain ⟨q0, -, q2, -, -⟩ := h.five
    have hlp := h.lp
    have hfew := h.few
    have hpp : ps[k]'(by omega) = p := by
      rw [List.getElem?_eq_getElem (by omega)] at hp
      injection hp
    rw [hpp] at hcell
    unfold pptr at hcell
    obtain ⟨i, HIE⟩ : ∃ i, Hid (i = insAt fs k1 m1) := ⟨_, Lib.hid rfl⟩
    rw [← HIE.out] at hins fi
    have hpl : p < w.heap.size := h.pl p (List.mem_of_getElem? hp)
    have G0 : ∀ w', SB27 w w' → w'.cell? ⟨gm, 0, none⟩ = some (.slice (some ⟨b1, off1, none⟩) fs.length fc) := fun w' h' => h'.cell h.head rfl
    have P0 : ∀ w', SB27 w w' → w'.cell? ⟨p, 0, none⟩ = some (.int .i64 (k1 : Int)) := fun w' h => by rw [← hfn]; exact (hc.step hpl h).fn
    have P1 : ∀ w', SB27 w w' → w'.cell? ⟨p, 1, none⟩ = some (.int .i64 (m1 : Int)) := fun w' h => by rw [← hpc]; exact (hc.step hpl h).pc
    have F1 : ∀ w', SB27 w w' → w'.cell? ⟨b1, off1 + k1 * 2, none⟩ = some (.slice (some ⟨b2, off2, none⟩) an ac) := fun w' h => (Below.cell (p := ⟨b1, off1 + k1 * 2, none⟩) h (by show b1 < _; omega)).trans f1
    have FI : ∀ w', SB27 w w' → (loadVar 64 ⟨b2, off2 + m1 * 5, none⟩).run Tryd.prog w' = .ok (.agg (insArr i)) w' := fun w' h => run_loadVar_cells w' b2 (off2 + m1 * 5) _ _ _ (fun j v hv => (Below.cell (p := ⟨b2, off2 + m1 * 5 + j, none⟩) h (by show b2 < _; omega)).trans (fi j v hv)) Tryd.underlying64 rfl (Tryd.infoIns5 _ _ _ _ _)
    have HA := Lib.hid ha
    have HK := Lib.hid (And.intro hk hp)
    have HFP := Lib.hid (And.intro hfn hpc)
    have HIN := Lib.hid hins
    obtain ⟨n, HN⟩ : ∃ n, Hid (n = ps.length) := ⟨_, Lib.hid rfl⟩
    have hkn : k < n := by rw [HN.out]; omega
    have hn100 : n ≤ 100 := by rw [HN.out]; omega
    rw [← HN.out] at q2
    obtain ⟨nf, HNF⟩ : ∃ n, Hid (n = fs.length) := ⟨_, Lib.hid rfl⟩
    have hk1n : k1 < nf := by rw [HNF.out]; exact hk1
    have hnf : nf ≤ 16 := by rw [HNF.out]; exact (run_fn hrun).2.1
    rw [← HNF.out] at G0
    have han2 : an ≤ maxLen := han
    unfold maxLen at han2
    have HDW := Lib.hid (show SB27 w w.drew from (Below.refl _ w).drew)
    clear ha hk hp hpv hc hmb hbl hlp hfew hpp hins hrun f1 fi hnd hb1 hb2 hfn hpc han hk1 h hs q0
    go_enter Tryd.func22, Tryd.ntmps22
    go_wp2_with (go_at_call 30; refine HAC.out.mono ?_; rintro e w1 ⟨rfl, rfl⟩)
    refine region_sch (SB27 w) [([0, 1, 2, 3, 4, 5, 6, 7, 8, 9, 10, 11, 12, 13, 14, 15, 16, 17, 18, 19], 20), ([], 21)] [] (by kernel_rfl) (by kernel_rfl) (by kernel_rfl) (fun _ _ d _ _ h => by cases d <;> exact h) HDW.out ?_
    (try simp only [Act.put, List.setIfInBounds_toArray, List.set_cons_zero, List.set_cons_succ]); refine sch_seg ?_; simp only [pickOps, List.getElem?_toArray, List.getElem?_cons_zero, List.getElem?_cons_succ]; (repeat (first | (refine quiet_load_at (by rfl) 64 _ rfl ⟨b2, off2 + m1 * 5, none⟩ rfl (insArr i) FI ?_; simp only [Act.put, List.setIfInBounds_toArray, List.set_cons_zero, List.set_cons_succ]) | go_big_quiet_skip | (go_big_quiet_want; first | (go_big_quiet_op; first | go_big_quiet_on | ((first | with_reducible refine ⟨_, fun _ _ => rfl, ?_⟩); go_big_quiet_on)) | (simp (contextual := true) [go_sem, G0, P0, F1, P1]; with_reducible refine ⟨_, fun _ _ => rfl, ?_⟩; go_big_quiet_on)))); refine wpQuiet_nil ?_
    clear G0 F1 FI
    go_wp2_with fail
    obtain ⟨X0, HX0⟩ : ∃ X, Hid (X = (w.alloc (.cells #[.int .i64 0, .int .i64 0, .int .i64 0, .int .i64 0, .int .i64 0] 64)).drew) := ⟨_, Lib.hid rfl⟩
    obtain ⟨q, HQE⟩ : ∃ q, Hid (q = w.heap.size) := ⟨_, Lib.hid rfl⟩
    have HQ0 := Lib.hid (show Blk X0 q 64 #[.int .i64 0, .int .i64 0, .int .i64 0, .int .i64 0, .int .i64 0] by rw [HX0.out, HQE.out]; exact (Blk.new w _ _).drew)
    have HBX0 := Lib.hid (show SB27 w X0 by rw [HX0.out]; exact (Below.alloc (Below.refl w.heap.size w) (Nat.le_refl _) _).drew)
    have HQL := Lib.hid (show w.heap.size ≤ q by rw [HQE.out]; exact Nat.le_refl _)
    rw [← HX0.out, ← HQE.out]
    refine ⟨SB27 w, HBX0.out, fun _ h => h, ?_⟩
    (try simp only [Act.put]); refine sch_seg ?_; simp only [pickOps, List.getElem?_toArray, List.getElem?_cons_zero, List.getElem?_cons_succ]; (repeat (first | go_big_quiet_skip | (go_big_quiet_want; first | (go_big_quiet_op; first | go_big_quiet_on | ((first | with_reducible refine ⟨_, fun _ _ => rfl, ?_⟩); go_big_quiet_on)) | (simp (contextual := true) [go_sem, P0]; with_reducible refine ⟨_, fun _ _ => rfl, ?_⟩; go_big_quiet_on)))); refine wpQuiet_nil ?_
    go_wp2_with (refine wpList_store_row rfl 64 _ _ rfl q (insArr i) rfl rfl 64 _ HQ0.out Tryd.infoInsS rfl (insArr_one i) ?_)
    obtain ⟨X, HX⟩ : ∃ X, Hid (X = X0.setRow q (insArr i)) := ⟨_, Lib.hid rfl⟩
    have HBX := Lib.hid (show SB27 w X by rw [HX.out]; exact below_setRow HBX0.out HQL.out HBX0.out.size _)
    have HQX := Lib.hid (show Blk X q 64 (insArr i) by rw [HX.out]; exact HQ0.out.setRow _)
    rw [← HX.out]
    refine ⟨SB27 w, HBX.out, fun _ h => h, ?_⟩
    (try simp only [Act.put]); refine sch_end ?_; simp only [pickOps]; (repeat (first | go_big_quiet_skip | (go_big_quiet_want; first | (go_big_quiet_op; first | go_big_quiet_on | ((first | with_reducible refine ⟨_, fun _ _ => rfl, ?_⟩); go_big_quiet_on)) | (simp (contextual := true) [go_sem, P0]; with_reducible refine ⟨_, fun _ _ => rfl, ?_⟩; go_big_quiet_on)))); refine wpQuiet_nil ?_
    clear HX0 HX HQE HQ0 HBX0 P0 P1 q2
    obtain ⟨a, HAE⟩ : ∃ a : Nat, Hid (i.a = a) := by
      obtain ⟨a, h⟩ := Int.eq_ofNat_of_zero_le HIN.out.a0
      exact ⟨a, Lib.hid h⟩
    have HA8 := Lib.hid (show a < 8 by have := HIN.out.a8; rw [HAE.out] at this; omega)
    have HKN := Lib.hid (show ((k : Int) + 1 - 1).toNat = k by omega)
    have HDP := Lib.hid (show canP fs M (k + 1) = (commitsP M (k + 1) k i || beginsP M k i) by
      unfold canP
      simp only
      rw [if_pos HA.out, HKN.out, HFP.out.1, HFP.out.2, ← HIE.out])
    have HCM := Lib.hid (fun (V : World) (hV : Below w.heap.size w V) => commits_any (HM.out.step hV HS.out) (Nat.le_trans HS.out hV.size) ((k : Int) + 1) HK.out.1 HK.out.2 i a HAE.out HA8.out)
    have HBG := Lib.hid (fun (V : World) (hV : Below w.heap.size w V) => begins_any (HM.out.step hV HS.out) (Nat.le_trans HS.out hV.size) ((k : Int) + 1) HK.out.1 HK.out.2 i a HAE.out HA8.out)
    unfold insArr at HCM HBG
    have J : ∀ V, SB27 X V → (V.cell? ⟨q, 0, none⟩ = some (.int .i64 i.op) ∧ V.cell? ⟨q, 1, none⟩ = some (.int .i64 i.a) ∧ V.cell? ⟨q, 2, none⟩ = some (.int .i64 i.b) ∧ V.cell? ⟨q, 3, none⟩ = some (.int .i64 i.c) ∧ V.cell? ⟨q, 4, none⟩ = some (.int .i64 i.n)) := fun V h => ⟨h.cell HQX.out rfl, h.cell HQX.out rfl, h.cell HQX.out rfl, h.cell HQX.out rfl, h.cell HQX.out rfl⟩
    have HJ := Lib.hid J
    obtain ⟨j0, j1, j2, j3, j4⟩ := J X (Below.refl _ _)
    clear J hk1n hnf han2 hkn hn100 hm1 hm64
    obtain ⟨cb, HCB⟩ : ∃ x : Bool, Hid (x = commitsP M ((k : Int) + 1) k i) := ⟨_, Lib.hid rfl⟩
    obtain ⟨bb, HBB⟩ : ∃ x : Bool, Hid (x = beginsP M k i) := ⟨_, Lib.hid rfl⟩
    rw [← HCB.out, ← HBB.out] at HDP
    simp only [← HCB.out] at HCM
    simp only [← HBB.out] at HBG
    cases cb with
    | true =>
      go_wp2_with (first | (go_at_call 31; refine (HCM.out _ HBX.out).mono ?_; rintro e W3 ⟨rfl, hb3⟩; have HB3 := Lib.hid (show SB27 w W3 from HBX.out.trans (hb3.mono HBX.out.size)); clear hb3))
      go_ret
      rw [HRV.out, HDP.out]
      exact ⟨rfl, HB3.out⟩
    | false =>
      go_wp2_with (first | (go_at_call 31; refine (HCM.out _ HBX.out).mono ?_; rintro e W3 ⟨rfl, hb3⟩; have HB3 := Lib.hid (show SB27 w W3 from HBX.out.trans (hb3.mono HBX.out.size)); obtain ⟨l0, l1, l2, l3, l4⟩ := HJ.out W3 hb3; clear hb3) | (go_at_call 33; refine (HBG.out _ HB3.out).mono ?_; rintro e W4 ⟨rfl, hb4⟩; have HB4 := Lib.hid (show SB27 w W4 from HB3.out.trans (hb4.mono HB3.out.size)); clear hb4))
      go_ret
      rw [HRV.out, HDP.out, Bool.false_or]
      exact ⟨rfl, HB4.out⟩
  · have HP := Lib.hid (show canP fs M g = false by unfold canP; rw [if_neg ha])
    have hf : actsP M g = false := by simpa using ha
    rw [hf] at HAC
    clear ha hf h hs
    go_enter Tryd.func22, Tryd.ntmps22
    go_wp2_with (go_at_call 30; refine HAC.out.mono ?_; rintro e w1 ⟨rfl, rfl⟩)
    go_ret
    rw [HRV.out, HP.out]
    exact ⟨rfl, Below.refl _ _⟩
end
end Go.Proofs.YtkfpnppppmccdaaDoor
namespace Go.Proofs.YtkfpnppppmccdaaDoor
open Go.RowKit
def evVals (e : Ev) : List Value := (evArr e).toList
/-- The first of any events that is not allowed. -/
def runE (fs : List Fn) (M : Md) : List Ev → Nat → Int × Int
  | [], _ => (-1, 0)
  | e :: l, i => if (doP fs M e).2 = true then runE fs (doP fs M e).1 l (i + 1) else ((i : Int), 9)
/-- What Check answers. -/
def chkP (fs : List Fn) (p g q : Int) (evs : List Ev) : Int × Int := if newF fs p g q = 0 then runE fs (md0 g) evs 0 else (-1, newF fs p g q)
theorem suspP_gs (M : Md) (k : Nat) (i : Ins) : (suspP M k i).2.gs = M.gs := by
  unfold suspP
  split
  · rfl
  · split
    · rfl
    · split <;> rfl
theorem resuP_gs (M : Md) (k : Nat) (i : Ins) : (resuP M k i).2.gs = M.gs := by
  unfold resuP
  split
  · rfl
  · split <;> rfl
theorem readyP_gs (M : Md) (k : Nat) (i : Ins) : (readyP M k i).2.gs = M.gs := by
  unfold readyP
  split
  · rfl
  · split <;> rfl
theorem spawnP_gs (M : Md) (k : Nat) (i : Ins) : (spawnP M k i).2.gs = M.gs := by
  unfold spawnP
  split <;> rfl
theorem startP_gs (M : Md) (g : Int) : (startP M g).2.gs = M.gs := by
  unfold startP
  simp only
  split <;> rfl
theorem barrP_gs (M : Md) (g : Int) : (barrP M g).2.gs = M.gs := by
  unfold barrP
  simp only
  split <;> rfl
theorem blockP_gs (M : Md) (g : Int) (k : Nat) : (blockP M g k).2.gs = M.gs := by
  unfold blockP
  simp only
  split <;> rfl
theorem deedP_gs (M : Md) (g : Int) (k : Nat) (i : Ins) : (deedP M g k i).2.gs = M.gs := by
  unfold deedP
  split
  · exact suspP_gs _ _ _
  split
  · exact resuP_gs _ _ _
  split
  · exact readyP_gs _ _ _
  split
  · exact spawnP_gs _ _ _
  split
  · rfl
  split
  · rfl
  split
  · rfl
  split
  · exact startP_gs _ _
  split
  · exact barrP_gs _ _
  split
  · exact blockP_gs _ _ _
  · rfl
theorem confF_gs {p g q : Int} (h : confF p g q = 0) : 1 ≤ g ∧ g ≤ 64 := by
  unfold confF at h
  split at h
  · cases h
  · rename_i h1
    simp only [Bool.or_eq_true, not_or, outB, decide_eq_true_eq] at h1
    omega
theorem newF_gs {fs : List Fn} {p g q : Int} (h : newF fs p g q = 0) : 1 ≤ g ∧ g ≤ 64 := by
  unfold newF at h
  split at h
  · exact confF_gs h
  · cases h
theorem commitP_gs (fs : List Fn) (M : Md) (g : Int) (k : Nat) (i : Ins) (n : Int) : (commitP fs M g k i n).1.gs = M.gs := by
  unfold commitP
  simp only
  split
  · simp only
    split
    · exact deedP_gs M g k i
    · exact deedP_gs M g k i
  · rfl
theorem doP_gs (fs : List Fn) (M : Md) (e : Ev) : (doP fs M e).1.gs = M.gs := by
  unfold doP
  simp only
  split
  · split
    · split
      · split
        · exact commitP_gs _ _ _ _ _ _
        · rfl
      · split <;> rfl
    · rfl
  · rfl
theorem ev_cells {w : World} {B : Nat} {A : Option Addr} {evs : List Ev} (h : Row w B A (evs.flatMap evVals)) {k : Nat} (hk : k < evs.length) :
    ∃ b off, A = some ⟨b, off, none⟩ ∧ b < B ∧ w.cell? ⟨b, off + k * 5, none⟩ = some (.int .i64 evs[k].kind) ∧ w.cell? ⟨b, off + k * 5 + 1, none⟩ = some (.int .i64 evs[k].g) ∧ w.cell? ⟨b, off + k * 5 + 2, none⟩ = some (.int .i64 evs[k].fn) ∧ w.cell? ⟨b, off + k * 5 + 3, none⟩ = some (.int .i64 evs[k].pc) ∧ w.cell? ⟨b, off + k * 5 + 4, none⟩ = some (.int .i64 evs[k].n) := by
  have hl := flat_length (f := evVals) (size := 5) (fun _ => rfl) evs
  obtain ⟨b, off, e, hb, hc⟩ := h.at_ (k := k * 5) (by rw [hl]; omega)
  have hg : evs[k]? = some evs[k] := List.getElem?_eq_getElem hk
  have f : ∀ r u, (evVals evs[k])[r]? = some u → w.cell? ⟨b, off + k * 5 + r, none⟩ = some u := fun r u hu => by
    rw [Nat.add_assoc]
    exact hc _ _ (flat_at (f := evVals) (size := 5) (fun _ => rfl) evs k r evs[k] u hg hu)
  exact ⟨b, off, e, hb, f 0 _ rfl, f 1 _ rfl, f 2 _ rfl, f 3 _ rfl, f 4 _ rfl⟩
section
variable {w : World} {m gm : Nat} {F : Option Addr} {fc : Nat} {fs : List Fn} {M : Md} {ps : List Nat} {L : Option Addr} {c : Nat} {Bs : List (Option Addr × Nat)}
theorem DoneD.below {M' : Md} {w' : World} (hd : DoneD m gm F fc fs M' ps L Bs w w') (h : MdIs w m gm F fc fs M ps L c Bs) (hs : m ≤ w.heap.size) : Below m w w' := by
  obtain ⟨ex, L', c', Bs', -, -, -, hv, -⟩ := hd
  refine hv.low hs (fun b hb => ?_)
  rcases List.mem_cons.1 hb with e | hb
  · rw [e]; exact h.low.1
  · rcases List.mem_append.1 hb with hb | hb
    · exact h.low.2 b hb
    · exact (h.row.lt b (Option.mem_toList.1 hb)).1
end
/-- A model lies there, behind k events. -/
def ChI (w : World) (gm : Nat) (F : Option Addr) (fc : Nat) (fs : List Fn) (g : Int) (evs : List Ev) (k : Nat) (wr : World) : Prop :=
  ∃ M ps L c Bs, MdIs wr w.heap.size gm F fc fs M ps L c Bs ∧ M.gs = g ∧ Below w.heap.size w wr ∧ runE fs (md0 g) evs 0 = runE fs M (evs.drop k) k
set_option maxRecDepth 10000 in
set_option maxHeartbeats 2000000 in
theorem check27_any {w : World} {F EA : Option Addr} {fc ec : Nat} {fs : List Fn} (hT : Tab w) (hf : FnsOk w w.heap.size F fs) (hfl : fs.length ≤ maxLen) (p g q : Int) (evs : List Ev) (n : Nat) (hn : evs.length = n) (hn2 : n ≤ maxLen) (hev : Row w w.heap.size EA (evs.flatMap evVals)) :
    Calls Tryd.prog 9 #[.agg #[.slice F fs.length fc], .agg #[.int .i64 p, .int .i64 g, .int .i64 q], .slice EA n ec] w fun r w' => r = .returned (.tuple #[.int .i64 (chkP fs p g q evs).1, .int .i64 (chkP fs p g q evs).2]) ∧ Below w.heap.size w w' := by
  obtain ⟨r1, HR1⟩ : ∃ x, Hid (x = (chkP fs p g q evs).1) := ⟨_, Lib.hid rfl⟩
  obtain ⟨r2, HR2⟩ : ∃ x, Hid (x = (chkP fs p g q evs).2) := ⟨_, Lib.hid rfl⟩
  rw [← HR1.out, ← HR2.out]
  obtain ⟨W, HW⟩ : ∃ W, Hid (W = (w.alloc (.cells #[.slice F fs.length fc] 24)).alloc (.cells #[.int .i64 p, .int .i64 g, .int .i64 q] 26)) := ⟨_, Lib.hid rfl⟩
  have HBW := Lib.hid (show Below w.heap.size w W by rw [HW.out]; exact below2 w _ _)
  have HNW := Lib.hid (new27_any (m := w.heap.size) (F := F) (fc := fc) (fs := fs) (hT.step HBW.out) HBW.out.size (hf.below HBW.out) hfl p g q)
  have HT := Lib.hid hT
  have HN := Lib.hid hn
  have HEV := Lib.hid hev
  have HM0 := Lib.hid (show 0 < w.heap.size by obtain ⟨t, fr, h⟩ := hT; exact (Array.getElem?_eq_some_iff.1 h).1)
  have hw := HW.out
  unfold maxLen at hn2
  clear hT hf hfl hn hev
  go_enter Tryd.func9, Tryd.ntmps9
  go_wp2_with fail
  rw [← hw]
  clear hw
  refine HNW.out.mono ?_
  rintro e W1 ⟨hb1, ⟨hne, rfl⟩ | ⟨h0, gm, pg, L, rfl, hM, hg1, hg2, hg3⟩⟩
  · have HB1 := Lib.hid (HBW.out.trans (hb1.mono HBW.out.size))
    have HP := Lib.hid (show chkP fs p g q evs = (-1, newF fs p g q) by unfold chkP; rw [if_neg hne])
    obtain ⟨f, HF⟩ : ∃ x, Hid (x = newF fs p g q) := ⟨_, Lib.hid rfl⟩
    rw [← HF.out] at HP hne ⊢
    have e1 : (f == 0) = false := by simpa using hne
    have e2 : (f != 0) = true := by simpa using hne
    clear hb1 hne
    go_wp2_with fail
    go_ret2
    rw [HR1.out, HR2.out, HP.out]
    exact ⟨rfl, HB1.out⟩
  · have HB1 := Lib.hid (HBW.out.trans (hb1.mono HBW.out.size))
    have HP := Lib.hid (show chkP fs p g q evs = runE fs (md0 g) evs 0 by unfold chkP; rw [if_pos h0])
    have HG := Lib.hid (newF_gs h0).2
    have HCI := Lib.hid (show ChI w gm F fc fs g evs 0 W1 from ⟨_, _, _, _, _, hM, rfl, HB1.out, rfl⟩)
    clear hb1 h0 hM hg1 hg2 hg3
    go_wp2_with fail
    go_loopw [27] (fun vi wr => ∃ k : Nat, k ≤ n ∧ vi = .int .i64 k ∧ Hid (ChI w gm F fc fs g evs k wr)) (fun vi _ => n - (intOf vi).toNat)
    case atStart => exact ⟨0, Nat.zero_le _, rfl, HCI⟩
    case round =>
      obtain ⟨k, hk, rfl, HC⟩ := hrel
      by_cases hlt : k < n
      · obtain ⟨M, ps, L, c, Bs, hM, hgs, hb, hrun⟩ := HC.out
        have HKL := Lib.hid (show k < evs.length by have := HN.out; omega)
        obtain ⟨b, off, rfl, hbl, v0, v1, v2, v3, v4⟩ := ev_cells (HEV.out.below hb) HKL.out
        have HMR := Lib.hid hM
        have HBR := Lib.hid hb
        have HRUN := Lib.hid hrun
        have HGS := Lib.hid hgs
        clear hM hb hrun hgs hbl
        go_wp2_with fail
        have hbr2 : Below wr.heap.size wr (wr.alloc (.cells #[.int .i64 evs[k].kind, .int .i64 evs[k].g, .int .i64 evs[k].fn, .int .i64 evs[k].pc, .int .i64 evs[k].n] 43)) := (Below.refl _ wr).alloc (Nat.le_refl _) _
        refine (do27_any (HMR.out.step hbr2 HBR.out.size) (Nat.le_trans HBR.out.size hbr2.size) ((HT.out.step HBR.out).step hbr2) HM0.out (by rw [HGS.out]; have := HG.out; omega) evs[k]).mono ?_
        rintro e W3 ⟨rfl, hd⟩
        have HB3 := Lib.hid ((HBR.out.trans (hbr2.mono HBR.out.size)).trans (hd.below (HMR.out.step hbr2 HBR.out.size) (Nat.le_trans HBR.out.size hbr2.size)))
        have HD := Lib.hid hd
        have HSTEP := Lib.hid (show runE fs M (evs.drop k) k = if (doP fs M evs[k]).2 = true then runE fs (doP fs M evs[k]).1 (evs.drop (k + 1)) (k + 1) else ((k : Int), 9) by
          rw [List.drop_eq_getElem_cons HKL.out]
          rfl)
        clear hbr2 hd v0 v1 v2 v3 v4
        obtain ⟨bo, HBO⟩ : ∃ b, Hid (b = (doP fs M evs[k]).2) := ⟨_, Lib.hid rfl⟩
        rw [← HBO.out] at HSTEP ⊢
        cases bo with
        | true =>
          have HC2 := Lib.hid (show ChI w gm F fc fs g evs (k + 1) W3 by
            obtain ⟨ex, L', c', Bs', hM, -, -, -⟩ := HD.out
            exact ⟨_, _, _, _, _, hM, (doP_gs fs M evs[k]).trans HGS.out, HB3.out, by rw [HRUN.out, HSTEP.out, if_pos rfl]⟩)
          simp only [if_true]
          go_wp2_with fail
          go_roundw
          case rel => exact ⟨k + 1, by omega, by go_num, HC2⟩
          case measure => simp [intOf]; omega
        | false =>
          have HEND := Lib.hid (show runE fs (md0 g) evs 0 = ((k : Int), 9) by rw [HRUN.out, HSTEP.out, if_neg (by decide)])
          simp only [Bool.false_eq_true, if_false]
          go_wp2_with fail
          go_ret2
          rw [HR1.out, HR2.out, HP.out, HEND.out]
          exact ⟨rfl, HB3.out⟩
      · have hkn : k = n := by omega
        subst hkn
        obtain ⟨M, ps, L, c, Bs, hM, hgs, hb, hrun⟩ := HC.out
        have HEND := Lib.hid (show runE fs (md0 g) evs 0 = (-1, 0) by rw [hrun, List.drop_of_length_le (by rw [HN.out]; exact Nat.le_refl _)]; rfl)
        have HBR := Lib.hid hb
        clear hM hgs hb hrun
        go_wp2_with fail
        go_ret2
        rw [HR1.out, HR2.out, HP.out, HEND.out]
        exact ⟨rfl, HBR.out⟩
end Go.Proofs.YtkfpnppppmccdaaDoor
namespace Go.Proofs.YtkfpnppppmccdaaDoor
open Go.RowKit
def stopExit : List Ins := [⟨17, 0, 0, 0, 0⟩, ⟨14, 0, 0, 0, 0⟩]
theorem alive_c1 : chkP [⟨stopExit, [true, true]⟩] 1 1 1 [⟨1, 1, 0, 0, 0⟩, ⟨2, 1, 0, 0, 0⟩, ⟨2, 1, 0, 1, 0⟩] = (-1, 0) := by decide +kernel
theorem alive_c2 : chkP [⟨stopExit, [true, true]⟩] 1 1 1 [⟨2, 1, 0, 0, 0⟩, ⟨2, 1, 0, 1, 0⟩] = (0, 9) := by decide +kernel
theorem stopFn_ok {w : World} {B g1 g2 : Nat} (h1 : Blk w g1 64 #[.int .i64 17, .int .i64 0, .int .i64 0, .int .i64 0, .int .i64 0, .int .i64 14, .int .i64 0, .int .i64 0, .int .i64 0, .int .i64 0]) (h2 : Blk w g2 4 #[.bool true, .bool true]) (b1 : g1 < B) (b2 : g2 < B) :
    FnOk w B ⟨some ⟨g1, 0, none⟩, 2, 2, some ⟨g2, 0, none⟩, 2, 2⟩ ⟨stopExit, [true, true]⟩ :=
  ⟨rfl, rfl, row_of_blk h1 b1, row_of_blk h2 b2, by simp [maxLen], by simp [maxLen], by
    intro i hi
    simp only [stopExit, List.mem_cons, List.not_mem_nil, or_false] at hi
    rcases hi with rfl | rfl <;> simp [InsOk, I64]⟩
theorem blk6 (w : World) (t1 t2 t3 t4 t5 t6 : TypeId) (c1 c2 c3 c4 c5 c6 : Array Value) (W : World) (hW : W = (((((w.alloc (.cells c1 t1)).alloc (.cells c2 t2)).alloc (.cells c3 t3)).alloc (.cells c4 t4)).alloc (.cells c5 t5)).alloc (.cells c6 t6)) :
    Blk W w.heap.size t1 c1 ∧ Blk W (w.heap.size + 1) t2 c2 ∧ Blk W (w.heap.size + 1 + 1) t3 c3 ∧ Blk W (w.heap.size + 1 + 1 + 1) t4 c4 ∧ Blk W (w.heap.size + 1 + 1 + 1 + 1) t5 c5 ∧ Blk W (w.heap.size + 1 + 1 + 1 + 1 + 1) t6 c6 ∧ W.heap.size = w.heap.size + 6 ∧ Below w.heap.size w W := by
  obtain ⟨b1, b2, b3, b4, hz, hB⟩ := blk4 w t1 t2 t3 t4 c1 c2 c3 c4 _ rfl
  generalize (((w.alloc (.cells c1 t1)).alloc (.cells c2 t2)).alloc (.cells c3 t3)).alloc (.cells c4 t4) = V at *
  subst hW
  have b5 := Blk.new V t5 c5
  have b6 := Blk.new (V.alloc (.cells c5 t5)) t6 c6
  rw [hz] at b5
  rw [World.size_alloc, hz] at b6
  exact ⟨(b1.alloc _).alloc _, (b2.alloc _).alloc _, (b3.alloc _).alloc _, (b4.alloc _).alloc _, b5.alloc _, b6, by simp [hz], (hB.alloc (by omega) _).alloc (by rw [World.size_alloc]; omega) _⟩
theorem Tryd.infoCf (x y z : Value) : (Tryd.prog.info? 26).map (·.size) = some (#[x, y, z] : Array Value).size := by kernel_rfl
set_option maxRecDepth 10000 in
set_option maxHeartbeats 2000000 in
theorem alive27 (w : World) (hT : Tab w) : Calls Tryd.prog 8 #[] w fun e w' => e = .returned (.bool true) ∧ Below w.heap.size w w' := by
  have HT := Lib.hid hT
  clear hT
  go_enter Tryd.func8, Tryd.ntmps8
  go_wp2_with fail
  generalize hW : (((((w.alloc _).alloc _).alloc _).alloc _).alloc _).alloc _ = W
  obtain ⟨b1, b2, b3, b4, b5, b6, hz, hB⟩ := blk6 w _ _ _ _ _ _ _ _ _ _ _ _ W hW.symm
  have HB := Lib.hid hB
  have HFS := Lib.hid (aliveFns_ok (stopFn_ok (B := W.heap.size) b1 b2 (by omega) (by omega)) b3 (by omega))
  have HEV := Lib.hid (row_of_blk (B := W.heap.size) b6 (by omega))
  have HTW := Lib.hid (HT.out.step hB)
  have HP := Lib.hid b4
  have HC := Lib.hid b5
  have HE := Lib.hid b6
  clear hW b1 b2 b3 b4 b5 b6 hz
  refine (check27_any HTW.out HFS.out (by simp [maxLen]) 1 1 1 [⟨1, 1, 0, 0, 0⟩, ⟨2, 1, 0, 0, 0⟩, ⟨2, 1, 0, 1, 0⟩] 3 rfl (by simp [maxLen]) HEV.out).mono ?_
  rintro e W1 ⟨rfl, hb1⟩
  rw [alive_c1]
  have HB1 := Lib.hid hb1
  clear hb1
  go_wp2_with fail
  have P0 : ∀ w', Below W.heap.size W w' → w'.cell? ⟨w.heap.size + 1 + 1 + 1, 0, none⟩ = some (.slice (some ⟨w.heap.size + 1 + 1, 0, none⟩) 1 1) := fun w' h => ((HP.out.below h HP.out.lt).cell 0).trans rfl
  have C0 : ∀ w', Below W.heap.size W w' → w'.cell? ⟨w.heap.size + 1 + 1 + 1 + 1, 0, none⟩ = some (.int .i64 1) := fun w' h => ((HC.out.below h HC.out.lt).cell 0).trans rfl
  have C1 : ∀ w', Below W.heap.size W w' → w'.cell? ⟨w.heap.size + 1 + 1 + 1 + 1, 1, none⟩ = some (.int .i64 1) := fun w' h => ((HC.out.below h HC.out.lt).cell 1).trans rfl
  have C2 : ∀ w', Below W.heap.size W w' → w'.cell? ⟨w.heap.size + 1 + 1 + 1 + 1, 2, none⟩ = some (.int .i64 1) := fun w' h => ((HC.out.below h HC.out.lt).cell 2).trans rfl
  have HEW := Lib.hid (show Row W W.heap.size (some ⟨w.heap.size + 1 + 1 + 1 + 1 + 1, 5, none⟩) (([⟨2, 1, 0, 0, 0⟩, ⟨2, 1, 0, 1, 0⟩] : List Ev).flatMap evVals) from .inr ⟨_, 5, rfl, HE.out.lt, fun j u hu => by
    rw [HE.out.cell (5 + j), List.getElem?_toArray, ← List.getElem?_drop]
    exact hu⟩)
  have HCK := Lib.hid (fun (w' : World) (h : Below W.heap.size W w') => by
    have := check27_any (ec := 2) (fc := 1) (HTW.out.step h) ((HFS.out.below h).more h.size) (by simp [maxLen]) 1 1 1 [⟨2, 1, 0, 0, 0⟩, ⟨2, 1, 0, 1, 0⟩] 2 rfl (by simp [maxLen]) ((HEW.out.below h).more h.size)
    rw [alive_c2] at this
    exact this)
  refine region_below W W.heap.size (by kernel_rfl) (by kernel_rfl) HB1.out ?_
  repeat (first | go_big_quiet_skip | (go_big_quiet_want; first | (go_big_quiet_op; first | go_big_quiet_on | ((first | with_reducible refine ⟨_, fun _ _ => rfl, ?_⟩ | with_reducible refine ⟨_, fun w' hw' => calm_of hw' (Nat.le_refl _) (HCK.out w' hw'), ?_⟩); go_big_quiet_on)) | (simp (contextual := true) [go_sem, P0, C0, C1, C2]; with_reducible refine ⟨_, fun _ _ => rfl, ?_⟩; go_big_quiet_on)))
  refine wpQuiet_nil ?_
  intro W2 hW2
  have HB2 := Lib.hid (HB.out.trans (hW2.mono HB.out.size))
  clear hW2
  go_wp2_with fail
  go_ret
  exact ⟨rfl, HB2.out⟩
end Go.Proofs.YtkfpnppppmccdaaDoor
namespace Go.Proofs.YtkfpnppppmccdaaDoor
open Go.RowKit
theorem do27_nil (v0 v1 v2 v3 v4 : Value) (w : World) : Calls Tryd.prog 15 #[.pointer none, .agg #[v0, v1, v2, v3, v4]] w fun e w' => e = .returned (.int .i64 1) ∧ Below w.heap.size w w' := by
  go_enter Tryd.func15, Tryd.ntmps15
  go_wp2_with fail
  go_ret
  exact ⟨rfl, (Below.refl _ _).alloc (Nat.le_refl _) _⟩
set_option maxRecDepth 10000 in
set_option maxHeartbeats 2000000 in
theorem nils27 (g : Int) (w : World) (hT : Tab w) : Calls Tryd.prog 6 #[.int .i64 g] w fun e w' => e = .returned (.bool true) ∧ Below w.heap.size w w' := by
  have HT := Lib.hid hT
  clear hT
  go_enter Tryd.func6, Tryd.ntmps6
  go_wp2_with fail
  refine (thread27_nil g w).mono ?_
  rintro e w1 ⟨rfl, hb1⟩
  have HB1 := Lib.hid hb1
  clear hb1
  rw [show thArr zeroTh none 0 = #[.int .i64 0, .int .i64 0, .int .i64 0, .int .i64 0, .int .i64 0, .int .i64 0, .int .i64 0, .int .i64 0, .int .i64 0, .int .i64 0, .slice none 0 0, .bool false] from rfl]
  go_wp2_with fail
  refine (do27_nil _ _ _ _ _ _).mono ?_
  rintro e w2 ⟨rfl, hb2⟩
  have HB2 := Lib.hid (show Below w.heap.size w w2 from (HB1.out.alloc HB1.out.size _).trans (hb2.mono (HB1.out.alloc HB1.out.size _).size))
  clear hb2
  go_wp2_with (first | (go_at_call 22; refine (can27_nil _ _).mono ?_; rintro e w3 ⟨rfl, rfl⟩) | (go_at_call 23; refine (count27_nil _).mono ?_; rintro e w3 ⟨rfl, rfl⟩) | (go_at_call 14; refine (holder27_nil _).mono ?_; rintro e w3 ⟨rfl, rfl⟩) | (go_at_call 16; refine (owner27_nil _).mono ?_; rintro e w3 ⟨rfl, rfl⟩) | (go_at_call 24; refine (blocked27_nil _ _).mono ?_; rintro e w3 ⟨rfl, rfl⟩) | (go_at_call 17; refine (suspended27_nil _ _).mono ?_; rintro e w3 ⟨rfl, rfl⟩) | (go_at_call 25; refine (begun27_nil _ _).mono ?_; rintro e w3 ⟨rfl, rfl⟩) | (go_at_call 8; refine (alive27 _ (HT.out.step HB2.out)).mono ?_; rintro e w3 ⟨rfl, hb3⟩; have HB3 := Lib.hid (HB2.out.trans (hb3.mono HB2.out.size)); clear hb3))
  go_ret
  exact ⟨rfl, HB3.out⟩
end Go.Proofs.YtkfpnppppmccdaaDoor

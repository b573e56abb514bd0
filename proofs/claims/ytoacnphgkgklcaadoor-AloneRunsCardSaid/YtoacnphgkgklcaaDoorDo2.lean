/-
  Chapter 11: one step of a thread that fits: contract of vm.Do. Conditions: program and thread lie in memory; the table isa.rows.
-/
import Derived.Test.YtoacnphgkgklcaaDoorDo1
namespace Go.Proofs.YtoacnphgkgklcaaDoor
open Go.RowKit
/-- The registers behind an instruction. -/
def regs1 (i : Ins) (t : Th) (ans : Int) : List Int :=
  match reckonV i.op (regOf t i.b) (regOf t i.c) with
  | some v => t.regs.set i.a.toNat v
  | none => if i.op = 1 then t.regs.set i.a.toNat i.n else if opAsks i.op = true then t.regs.set i.a.toNat ans else t.regs
/-- What it tells. -/
def tells1 (i : Ins) (t : Th) (ans : Int) : Int := if i.op = 15 then regOf t i.a else if opAsks i.op = true then ans else 0
def doneT : Th := ⟨0, 0, [0, 0, 0, 0, 0, 0, 0, 0], [], true⟩
/-- The step of a thread that fits. -/
def stepI (i : Ins) (t : Th) (ans : Int) : Th × Int := match moveT i { t with regs := regs1 i t ans, pc := t.pc + 1 } with
  | none => (doneT, 0)
  | some u => (u, tells1 i t ans)
def stepT (fs : List Fn) (t : Th) (ans : Int) : Th × Int × Bool := if t.done = true then (t, 0, false) else ((stepI (insAt fs t.fn t.pc) t ans).1, (stepI (insAt fs t.fn t.pc) t ans).2, true)
/-- What a step answers. -/
def DoOut (w : World) (r : Th × Int × Bool) (e : Ending) (w' : World) : Prop :=
  ∃ B d, e = .returned (.tuple #[.agg (thArr r.1 B d), .int .i64 r.2.1, .bool r.2.2]) ∧ ThOk w' w'.heap.size r.1 B d ∧ (∀ k, ob B = some k → w.heap.size ≤ k) ∧ Below w.heap.size w w'
theorem ThMem.ok {w : World} {base g : Nat} {u : Th} {B : Option Addr} {d : Nat} (h : ThMem w base g u B d) : ThOk w w.heap.size u B d := by
  refine ⟨h.regs, h.own.rowN, ?_, ?_⟩
  · rcases h.own.2 with ⟨_, h0⟩ | ⟨_, cap, _, hv, _, _, hnc, _⟩
    · omega
    · injection hv with _ _ h3
      omega
  · rcases h.own.2 with ⟨hv, h0⟩ | ⟨_, cap, _, hv, _, _, _, hcm, _⟩
    · injection hv with _ _ h3
      rw [h3]
      unfold maxLen
      omega
    · injection hv with _ _ h3
      omega
theorem neqf_2 (w : World) : (binOp .neq 80 (.func (.func 51) #[] #[]) .nilFunc).run Tryd.prog w = .ok (.bool true) w := by kernel_rfl
theorem neqf_3 (w : World) : (binOp .neq 80 (.func (.func 52) #[] #[]) .nilFunc).run Tryd.prog w = .ok (.bool true) w := by kernel_rfl
theorem neqf_4 (w : World) : (binOp .neq 80 (.func (.func 53) #[] #[]) .nilFunc).run Tryd.prog w = .ok (.bool true) w := by kernel_rfl
theorem neqf_5 (w : World) : (binOp .neq 80 (.func (.func 54) #[] #[]) .nilFunc).run Tryd.prog w = .ok (.bool true) w := by kernel_rfl
theorem neqf_no (w : World) : (binOp .neq 80 .nilFunc .nilFunc).run Tryd.prog w = .ok (.bool false) w := by kernel_rfl
def outOf (o : Option Th) (n : Int) : Th × Int := match o with
  | none => (doneT, 0)
  | some u => (u, n)
theorem stepI_of {i : Ins} {t : Th} {ans pc n : Int} {rs : List Int} (h1 : regs1 i t ans = rs) (h2 : tells1 i t ans = n) (h3 : t.pc = pc) : stepI i t ans = outOf (moveT i { t with regs := rs, pc := pc + 1 }) n := by
  unfold stepI outOf
  rw [h1, h2, h3]
theorem thArr_done : thArr doneT none 0 = #[.int .i64 0, .int .i64 0, .int .i64 0, .int .i64 0, .int .i64 0, .int .i64 0, .int .i64 0, .int .i64 0, .int .i64 0, .int .i64 0, .slice none 0 0, .bool true] := rfl
theorem thArr_setreg (t : Th) (A : Option Addr) (c a : Nat) (ha : a < 8) (h : t.regs.length = 8) (v : Int) : (thArr t A c).setIfInBounds (2 + a) (.int .i64 v) = thArr { t with regs := t.regs.set a v } A c := by
  unfold thArr
  rw [List.setIfInBounds_toArray]
  congr 1
  rw [List.append_assoc, List.append_assoc, List.set_append_right _ _ (by simp)]
  simp only [List.length_cons, List.length_nil, Nat.zero_add, Nat.reduceAdd, Nat.add_sub_cancel_left]
  rw [List.set_append_left _ _ (by simp; omega), List.map_set]
set_option maxHeartbeats 8000000 in
set_option maxRecDepth 100000 in
theorem do_run (t : Th) (A B : Option Addr) (c d : Nat) (fs : List Fn) (ans : Int) (w : World) (hT : Tab w) (_hm0 : fs.length ≤ maxLen) (hf : FnsOk w w.heap.size A fs) (ht : ThOk w w.heap.size t B d) (hfit : fitsT fs t = true) (hdn : t.done = false) :
    Calls Tryd.prog 29 #[.agg #[.slice A fs.length c], .agg (thArr t B d), .int .i64 ans] w (DoOut w (stepT fs t ans)) := by
  obtain ⟨hrun, k, m, ek, em, hk, hm, ei⟩ := fits_place hfit hdn
  have hst : t.stack.length ≤ 16 := by
    unfold fitsT fitsP at hfit
    rw [hdn, Bool.false_or, Bool.and_eq_true, Bool.and_eq_true, Bool.and_eq_true, decide_eq_true_eq] at hfit
    exact hfit.2.2.1
  have HR := Lib.hid (run_ins hrun hk hm)
  have HSTEP := Lib.hid (show stepT fs t ans = ((stepI fs[k].code[m] t ans).1, (stepI fs[k].code[m] t ans).2, true) by unfold stepT; rw [hdn, ei]; rfl)
  have hpc : m < 64 := Nat.lt_of_lt_of_le hm (fn_ok ((run_fn hrun).2.2 k hk)).2.1
  have h0 := thArr_0 (t := t) B d
  have h1 := thArr_1 (t := t) B d
  have h11 := thArr_11 B d ht.regs
  rw [ek] at h0
  rw [em] at h1
  rw [hdn] at h11
  have HPC := Lib.hid em
  have HTA := Lib.hid hT
  have HT := Lib.hid ht
  have HREG := Lib.hid (fun (x : Nat) (hx : x < 8) => thArr_reg B d ht.regs x hx)
  have HSZ := Lib.hid (show (Tryd.prog.info? 28).map (·.size) = some (thArr t B d).size by rw [thArr_size B d ht.regs]; exact Tryd.infoTh)
  unfold maxLen at _hm0
  generalize hX : thArr t B d = X at *
  have HX := Lib.hid hX
  have hb0 := below3 w (.cells #[.slice A fs.length c] 24) (.cells X 28) (.cells #[.int .i64 0, .int .i64 0, .int .i64 0, .int .i64 0, .int .i64 0, .int .i64 0, .int .i64 0, .int .i64 0, .int .i64 0, .int .i64 0, .slice none 0 0, .bool false] 28)
  have hW : ∃ W : World, Hid (W = ((w.alloc (.cells #[.slice A fs.length c] 24)).alloc (.cells X 28)).alloc (.cells #[.int .i64 0, .int .i64 0, .int .i64 0, .int .i64 0, .int .i64 0, .int .i64 0, .int .i64 0, .int .i64 0, .int .i64 0, .int .i64 0, .slice none 0 0, .bool false] 28)) := ⟨_, rfl⟩
  obtain ⟨W, HW⟩ := hW
  have hBP : Blk W w.heap.size 24 #[.slice A fs.length c] := by rw [HW.out]; exact ((Blk.new w _ _).alloc _).alloc _
  have hBT : Blk W (w.heap.size + 1) 28 X := by rw [HW.out]; exact Blk.alloc (heap_alloc2_new w _ _) _
  have hBR : Blk W (w.heap.size + 2) 28 #[.int .i64 0, .int .i64 0, .int .i64 0, .int .i64 0, .int .i64 0, .int .i64 0, .int .i64 0, .int .i64 0, .int .i64 0, .int .i64 0, .slice none 0 0, .bool false] := by rw [HW.out]; exact blk3 w _ _ _ _
  have hWs : W.heap.size = w.heap.size + 3 := by rw [HW.out]; simp
  rw [← HW.out] at hb0
  have HB0 := Lib.hid hb0
  have HBT := Lib.hid hBT
  have HBR := Lib.hid hBR
  obtain ⟨b, off, b2, off2, an, ac, rfl, hbl, hbl2, hma, hna, hc0, hok, i0, i1, i2, i3, i4⟩ := (hf.below hb0).fetch hk hm
  generalize fs[k].code[m] = ins at *
  obtain ⟨op, ia, ib, ic, inn⟩ := ins
  obtain ⟨a, hia⟩ := Int.eq_ofNat_of_zero_le HR.out.a0
  obtain ⟨b', hib⟩ := Int.eq_ofNat_of_zero_le HR.out.b0
  obtain ⟨c', hic⟩ := Int.eq_ofNat_of_zero_le HR.out.c0
  simp only at hia hib hic i0 i1 i2 i3 i4
  subst hia hib hic
  have ha8 : a < 8 := by have := HR.out.a8; simp only at this; omega
  have hb8 : b' < 8 := by have := HR.out.b8; simp only at this; omega
  have hc8 : c' < 8 := by have := HR.out.c8; simp only at this; omega
  unfold maxLen at hna
  have S0 : ∀ w', Below (w.heap.size + 3) W w' → w'.cell? ⟨w.heap.size, 0, none⟩ = some (.slice (some ⟨b, off, none⟩) fs.length c) := fun w' h => (h.cell (p := ⟨w.heap.size, 0, none⟩) (by simp)).trans (hBP.cell 0)
  have S1 : ∀ w', Below (w.heap.size + 3) W w' → w'.cell? ⟨w.heap.size + 1, 0, none⟩ = some (.int .i64 k) := fun w' h => (h.cell (p := ⟨w.heap.size + 1, 0, none⟩) (by simp)).trans ((hBT.cell 0).trans h0)
  have S2 : ∀ w', Below (w.heap.size + 3) W w' → w'.cell? ⟨w.heap.size + 1, 1, none⟩ = some (.int .i64 m) := fun w' h => (h.cell (p := ⟨w.heap.size + 1, 1, none⟩) (by simp)).trans ((hBT.cell 1).trans h1)
  have S3 : ∀ w', Below (w.heap.size + 3) W w' → w'.cell? ⟨b, off + k * 2, none⟩ = some (.slice (some ⟨b2, off2, none⟩) an ac) := fun w' h => (h.cell (p := ⟨b, off + k * 2, none⟩) (by show b < _; omega)).trans hc0
  have S4 : ∀ w', Below (w.heap.size + 3) W w' → w'.cell? ⟨b2, off2 + m * 5, none⟩ = some (.int .i64 op) := fun w' h => (h.cell (p := ⟨b2, off2 + m * 5, none⟩) (by show b2 < _; omega)).trans i0
  have S5 : ∀ w', Below (w.heap.size + 3) W w' → w'.cell? ⟨b2, off2 + m * 5 + 1, none⟩ = some (.int .i64 (a : Int)) := fun w' h => (h.cell (p := ⟨b2, off2 + m * 5 + 1, none⟩) (by show b2 < _; omega)).trans i1
  have S6 : ∀ w', Below (w.heap.size + 3) W w' → w'.cell? ⟨b2, off2 + m * 5 + 2, none⟩ = some (.int .i64 (b' : Int)) := fun w' h => (h.cell (p := ⟨b2, off2 + m * 5 + 2, none⟩) (by show b2 < _; omega)).trans i2
  have S7 : ∀ w', Below (w.heap.size + 3) W w' → w'.cell? ⟨b2, off2 + m * 5 + 3, none⟩ = some (.int .i64 (c' : Int)) := fun w' h => (h.cell (p := ⟨b2, off2 + m * 5 + 3, none⟩) (by show b2 < _; omega)).trans i3
  have S8 : ∀ w', Below (w.heap.size + 3) W w' → w'.cell? ⟨b2, off2 + m * 5 + 4, none⟩ = some (.int .i64 inn) := fun w' h => (h.cell (p := ⟨b2, off2 + m * 5 + 4, none⟩) (by show b2 < _; omega)).trans i4
  have HWS := Lib.hid hWs
  have k11 : W.cell? ⟨w.heap.size + 1, 11, none⟩ = some (.bool false) := (hBT.cell 11).trans h11
  clear hfit hf ht hdn h0 h1 ek em ei hb0 hBP hBT hBR hc0 i0 i1 i2 i3 i4 hok hX hT hWs hrun hbl hbl2
  go_enter Tryd.func29, Tryd.ntmps29
  go_wp2_with fail
  rw [← HW.out]
  refine region_sch (fun w' => Below (w.heap.size + 3) W w') [([0, 1, 2, 3, 4, 5, 6, 7, 8, 9, 10], 11), ([], 12)] [] (by kernel_rfl) (by kernel_rfl) (by kernel_rfl) (fun _ _ d _ _ h => by cases d <;> exact h) (Below.refl _ _).drew ?_
  (try simp only [Act.put, List.setIfInBounds_toArray, List.set_cons_zero, List.set_cons_succ]); refine sch_seg ?_; simp only [pickOps, List.getElem?_toArray, List.getElem?_cons_zero, List.getElem?_cons_succ]; (repeat (first | go_big_quiet_skip | (go_big_quiet_want; first | (go_big_quiet_op; first | go_big_quiet_on | ((first | with_reducible refine ⟨_, fun _ _ => rfl, ?_⟩); go_big_quiet_on)) | (simp (contextual := true) [go_sem, S0, S1, S2, S3, S4, S5, S6, S7, S8]; with_reducible refine ⟨_, fun _ _ => rfl, ?_⟩; go_big_quiet_on)))); refine wpQuiet_nil ?_
  clear S0 S1 S2 S3 S4 S5 S6 S7 S8
  go_wp2_with fail
  refine ⟨fun w' => Below (w.heap.size + 3) W w', ((Below.refl _ _).alloc (by rw [HWS.out]; exact Nat.le_refl _) _).drew, fun _ h => h, ?_⟩
  (try simp only [Act.put, List.setIfInBounds_toArray, List.set_cons_zero, List.set_cons_succ]); refine sch_seg ?_; simp only [pickOps, List.getElem?_toArray, List.getElem?_cons_zero, List.getElem?_cons_succ]; (repeat (first | go_big_quiet_skip | (go_big_quiet_want; first | (go_big_quiet_op; first | go_big_quiet_on | ((first | with_reducible refine ⟨_, fun _ _ => rfl, ?_⟩); go_big_quiet_on)) | (simp (contextual := true) [go_sem, HB0]; with_reducible refine ⟨_, fun _ _ => rfl, ?_⟩; go_big_quiet_on)))); refine wpQuiet_nil ?_
  go_wp2_with fail
  refine ⟨fun w' => Below (w.heap.size + 3) W w', ((Below.refl _ _).alloc (by rw [HWS.out]; exact Nat.le_refl _) _).drew, fun _ h => h, ?_⟩
  refine sch_end ?_
  simp only [pickOps]
  refine wpQuiet_nil ?_
  have hW2 : ∃ W2 : World, Hid (W2 = (W.alloc (.cells #[.int .i64 op, .int .i64 (a : Int), .int .i64 (b' : Int), .int .i64 (c' : Int), .int .i64 inn] 32)).drew) := ⟨_, rfl⟩
  obtain ⟨W2, HW2⟩ := hW2
  rw [← HW2.out, HWS.out]
  have hb2 : Below W.heap.size W W2 := by rw [HW2.out]; exact ((Below.refl _ _).alloc (Nat.le_refl _) _).drew
  have hBI2 : Blk W2 (w.heap.size + 3) 32 #[.int .i64 op, .int .i64 (a : Int), .int .i64 (b' : Int), .int .i64 (c' : Int), .int .i64 inn] := by
    rw [HW2.out, ← HWS.out]
    exact (Blk.new W _ _).drew
  have HB2 := Lib.hid (HB0.out.trans (hb2.mono HB0.out.size))
  have HBT2 := Lib.hid (HBT.out.below hb2 HBT.out.lt)
  have HBR2 := Lib.hid (HBR.out.below hb2 HBR.out.lt)
  have HBI2 := Lib.hid hBI2
  have HW2S := Lib.hid (show W2.heap.size = w.heap.size + 4 by rw [HW2.out]; show (W.alloc _).heap.size = _; rw [World.size_alloc, HWS.out])
  clear hb2 hBI2 k11 h11
  go_wp2_with (refine wpList_load_rowW (by rfl) 28 _ rfl (w.heap.size + 1) rfl 28 X (0, 0) _ HBT2.out Tryd.underlying28 rfl HSZ.out ?_)
  rw [← HX.out]
  refine (vmClone_any t B d W2 (by omega) (HT.out.step HB2.out)).mono ?_
  rintro e w3 ⟨A3, c3, rfl, hO3, hb3⟩
  have HB3 := Lib.hid hb3
  have HO3 := Lib.hid hO3
  have HSZ3 := Lib.hid (show (Tryd.prog.info? 28).map (·.size) = some (thArr t A3 c3).size by rw [thArr_size A3 c3 HT.out.regs]; exact Tryd.infoTh)
  clear hO3 hb3
  have hz3 : W2.heap.size ≤ w3.heap.size := HB3.out.size
  have hkey : ∀ W5 : World, Hid (W5 = (w3.alloc (.cells #[.int .i64 0, .int .i64 0, .int .i64 0, .int .i64 0, .int .i64 0, .int .i64 0, .int .i64 0, .int .i64 0, .int .i64 0, .int .i64 0, .slice none 0 0, .bool false] 28)).setRow w3.heap.size (thArr t A3 c3)) →
      ThMem W5 W2.heap.size w3.heap.size t A3 c3 ∧ Blk W5 (w.heap.size + 3) 32 #[.int .i64 op, .int .i64 (a : Int), .int .i64 (b' : Int), .int .i64 (c' : Int), .int .i64 inn] ∧ Blk W5 (w.heap.size + 1) 28 X ∧ Blk W5 (w.heap.size + 2) 28 #[.int .i64 0, .int .i64 0, .int .i64 0, .int .i64 0, .int .i64 0, .int .i64 0, .int .i64 0, .int .i64 0, .int .i64 0, .int .i64 0, .slice none 0 0, .bool false] ∧ Below W2.heap.size W2 W5 := by
    intro W5 h5
    have hs := HW2S.out
    have hob : ob A3 = none ∨ ob A3 ≠ some w3.heap.size := by
      right
      intro h
      have := (HO3.out.lt _ h).2
      omega
    rw [h5.out]
    refine ⟨⟨(Blk.new w3 _ _).setRow _, ?_, hob, HT.out.regs, hz3⟩, ?_, ?_, ?_, ?_⟩
    · exact (HO3.out.alloc _).kept (grown_setRow _ _ _) hob
    · exact ((HBI2.out.below HB3.out HBI2.out.lt).alloc _).farRow (by omega) _
    · exact ((HBT2.out.below HB3.out HBT2.out.lt).alloc _).farRow (by omega) _
    · exact ((HBR2.out.below HB3.out HBR2.out.lt).alloc _).farRow (by omega) _
    · exact below_setRow (HB3.out.alloc hz3 _) hz3 (by simp; omega) _
  have KEY := Lib.hid hkey
  clear hkey
  go_wp2_with (refine wpList_store_row rfl 28 _ _ rfl w3.heap.size (thArr t A3 c3) rfl rfl 28 _ (Blk.new w3 _ _) HSZ3.out (by rw [thArr_size A3 c3 HT.out.regs]; rfl) (thArr_one t A3 c3) ?_; have hW5 : ∃ W5 : World, Hid (W5 = (w3.alloc (.cells #[.int .i64 0, .int .i64 0, .int .i64 0, .int .i64 0, .int .i64 0, .int .i64 0, .int .i64 0, .int .i64 0, .int .i64 0, .int .i64 0, .slice none 0 0, .bool false] 28)).setRow w3.heap.size (thArr t A3 c3)) := ⟨_, rfl⟩; obtain ⟨W5, HW5⟩ := hW5; rw [← HW5.out]; obtain ⟨hM5, hI5, hT5, hR5, hB5⟩ := KEY.out W5 HW5; have HM5 := Lib.hid hM5; have HI5 := Lib.hid hI5; have HT5 := Lib.hid hT5; have HR5 := Lib.hid hR5; have HB5 := Lib.hid hB5; have j0 := hI5.cell 0; simp only [List.getElem?_toArray, List.getElem?_cons_zero] at j0; clear hM5 hI5 hT5 hR5 hB5)
  have G0 : ∀ w', Below W5.heap.size W5 w' → w'.cell? ⟨w.heap.size + 3, 0, none⟩ = some (.int .i64 op) := fun w' h => (h.cell (p := ⟨w.heap.size + 3, 0, none⟩) HI5.out.lt).trans (HI5.out.cell 0)
  have G1 : ∀ w', Below W5.heap.size W5 w' → w'.cell? ⟨w.heap.size + 3, 1, none⟩ = some (.int .i64 a) := fun w' h => (h.cell (p := ⟨w.heap.size + 3, 1, none⟩) HI5.out.lt).trans (HI5.out.cell 1)
  have G2 : ∀ w', Below W5.heap.size W5 w' → w'.cell? ⟨w.heap.size + 3, 2, none⟩ = some (.int .i64 b') := fun w' h => (h.cell (p := ⟨w.heap.size + 3, 2, none⟩) HI5.out.lt).trans (HI5.out.cell 2)
  have G3 : ∀ w', Below W5.heap.size W5 w' → w'.cell? ⟨w.heap.size + 3, 3, none⟩ = some (.int .i64 c') := fun w' h => (h.cell (p := ⟨w.heap.size + 3, 3, none⟩) HI5.out.lt).trans (HI5.out.cell 3)
  have G4 : ∀ w', Below W5.heap.size W5 w' → w'.cell? ⟨w.heap.size + 3, 4, none⟩ = some (.int .i64 inn) := fun w' h => (h.cell (p := ⟨w.heap.size + 3, 4, none⟩) HI5.out.lt).trans (HI5.out.cell 4)
  have R0 : ∀ w', Below W5.heap.size W5 w' → w'.cell? ⟨w.heap.size + 1, 2 + a, none⟩ = some (.int .i64 (t.regs.getD a 0)) := fun w' h => (h.cell (p := ⟨w.heap.size + 1, 2 + a, none⟩) HT5.out.lt).trans ((HT5.out.cell (2 + a)).trans (HREG.out a ha8))
  have R1 : ∀ w', Below W5.heap.size W5 w' → w'.cell? ⟨w.heap.size + 1, 2 + b', none⟩ = some (.int .i64 (t.regs.getD b' 0)) := fun w' h => (h.cell (p := ⟨w.heap.size + 1, 2 + b', none⟩) HT5.out.lt).trans ((HT5.out.cell (2 + b')).trans (HREG.out b' hb8))
  have R2 : ∀ w', Below W5.heap.size W5 w' → w'.cell? ⟨w.heap.size + 1, 2 + c', none⟩ = some (.int .i64 (t.regs.getD c' 0)) := fun w' h => (h.cell (p := ⟨w.heap.size + 1, 2 + c', none⟩) HT5.out.lt).trans ((HT5.out.cell (2 + c')).trans (HREG.out c' hc8))
  have hkind : (op = 2 ∨ op = 3 ∨ op = 4 ∨ op = 5) ∨ ¬ (op = 2 ∨ op = 3 ∨ op = 4 ∨ op = 5) := Classical.em _
  have hgs : w.heap.size + 4 ≤ w3.heap.size := by have := HW2S.out; omega
  rcases hkind with hkind | hkind
  · rcases hkind with rfl | rfl | rfl | rfl
    · refine (reckons_2 W5).mono ?_
      rintro e w5 ⟨rfl, rfl⟩
      have nf := neqf_2
      go_wp2_with fail
      refine region_schE (fun w' => Below W5.heap.size W5 w') [([0, 1, 2, 3, 4, 5, 6, 7, 8, 9, 10, 11, 12, 13, 15], 14)] [16] 17 (by kernel_rfl) (by kernel_rfl) (by kernel_rfl) (fun _ _ d _ _ h => by cases d <;> exact h) (Below.refl _ _).drew ?_
      (try simp only [Act.put, List.setIfInBounds_toArray, List.set_cons_zero, List.set_cons_succ]); refine schE_seg ?_; simp only [pickOps, List.getElem?_toArray, List.getElem?_cons_zero, List.getElem?_cons_succ]; (repeat (first | go_big_quiet_skip | (go_big_quiet_want; first | (go_big_quiet_op; first | go_big_quiet_on | ((first | with_reducible refine ⟨_, fun _ _ => rfl, ?_⟩); go_big_quiet_on)) | (simp (contextual := true) [go_sem, G1, G2, G3, R1, R2]; with_reducible refine ⟨_, fun _ _ => rfl, ?_⟩; go_big_quiet_on)))); refine wpQuiet_nil ?_
      go_wp2_with fail
      refine (pair_add (t.regs.getD b' 0) (t.regs.getD c' 0) _).mono ?_
      rintro e w6 ⟨rfl, hb6⟩
      have HB6 := Lib.hid ((Below.refl W5.heap.size W5).drew.trans hb6)
      have HM6 := Lib.hid (HM5.out.step HB6.out)
      have HI6 := Lib.hid (HI5.out.below HB6.out HI5.out.lt)
      have HR6 := Lib.hid (HR5.out.below HB6.out HR5.out.lt)
      clear hb6 nf
      go_wp2_with fail
      refine ⟨fun w' => Below W5.heap.size W5 w', HB6.out, fun _ h => h, ?_⟩
      (try simp only [Act.put, List.setIfInBounds_toArray, List.set_cons_zero, List.set_cons_succ]); refine schE_last ?_; simp only [pickOps, List.getElem?_toArray, List.getElem?_cons_zero, List.getElem?_cons_succ]; (repeat (first | go_big_quiet_skip | (go_big_quiet_want; first | (go_big_quiet_op; first | go_big_quiet_on | ((first | with_reducible refine ⟨_, fun _ _ => rfl, ?_⟩); go_big_quiet_on)) | (simp (contextual := true) [go_sem, HB6]; with_reducible refine ⟨_, fun _ _ => rfl, ?_⟩; go_big_quiet_on)))); refine wpQuiet_nil ?_
      have q1 := (HM6.out.blk.cell 1).trans (thArr_1 A3 c3)
      rw [HPC.out] at q1
      have f1 := HM6.out.blk.frozen 1
      have qa := (HM6.out.blk.cell (2 + a)).trans (thArr_reg A3 c3 HM6.out.regs a ha8)
      have fa := HM6.out.blk.frozen (2 + a)
      have g0 := G0 w6 HB6.out
      have g1 := G1 w6 HB6.out
      have g2 := G2 w6 HB6.out
      have g3 := G3 w6 HB6.out
      have g4 := G4 w6 HB6.out
      clear G0 G1 G2 G3 G4 R0 R1 R2 j0
      have HM7 := Lib.hid ((HM6.out.set (2 + a) (.int .i64 (wrap64 (t.regs.getD b' 0 + t.regs.getD c' 0))) (thArr_setreg t A3 c3 a ha8 HM6.out.regs _) rfl rfl (by simpa using HM6.out.regs)).set 1 (.int .i64 ((m : Int) + 1)) (thArr_set1 _ A3 c3 _) rfl rfl (by simpa using HM6.out.regs))
      have HR7 := Lib.hid ((HR6.out.far (p := ⟨w3.heap.size, 2 + a, none⟩) (by show _ ≠ w3.heap.size; omega) (.int .i64 (wrap64 (t.regs.getD b' 0 + t.regs.getD c' 0)))).far (p := ⟨w3.heap.size, 1, none⟩) (by show _ ≠ w3.heap.size; omega) (.int .i64 ((m : Int) + 1)))
      have HB7 := Lib.hid (((HB5.out.trans (HB6.out.mono (Nat.le_of_lt HM5.out.size))).setCell (p := ⟨w3.heap.size, 2 + a, none⟩) hz3 (.int .i64 (wrap64 (t.regs.getD b' 0 + t.regs.getD c' 0)))).setCell (p := ⟨w3.heap.size, 1, none⟩) hz3 (.int .i64 ((m : Int) + 1)))
      have HE := Lib.hid (stepI_of (i := ⟨2, a, b', c', inn⟩) (t := t) (ans := ans) (rs := t.regs.set a (wrap64 (t.regs.getD b' 0 + t.regs.getD c' 0))) (n := 0) rfl rfl HPC.out)
      go_wp2_with fail
      refine (moves_any _ W2.heap.size w3.heap.size _ A3 c3 ⟨2, a, b', c', inn⟩ HM7.out (by simp) (by simp; omega) (by simpa using hst)).mono ?_
      rintro e w8 h8
      have hE := HE.out
      have hE2 := HSTEP.out
      rw [hE] at hE2
      generalize moveT ⟨2, a, b', c', inn⟩ _ = o at h8 hE2
      cases o with
      | none =>
        obtain ⟨rfl, hb8⟩ := h8
        have HR8 := Lib.hid (HR7.out.below hb8 (by have := HW2S.out; omega))
        have HB8 := Lib.hid (HB7.out.trans hb8)
        have HST := Lib.hid hE2
        have HSZD := Lib.hid (show (Tryd.prog.info? 28).map (·.size) = some (thArr doneT none 0).size from Tryd.infoTh)
        clear hb8 hE hE2 g0 g1 g2 g3 g4 q1 f1 qa fa
        go_wp2_with (refine wpList_store_row rfl 28 _ _ rfl (w.heap.size + 2) (thArr doneT none 0) rfl rfl 28 _ HR8.out HSZD.out rfl (thArr_one doneT none 0) ?_)
        refine bodyPost_ret (v := .tuple #[.agg (thArr doneT none 0), .int .i64 0, .bool true]) (results_cell3 Tryd.results29 _ _ (w.heap.size + 2) 28 (thArr doneT none 0) (0, 0) _ rfl (HR8.out.setRow _) Tryd.underlying28 rfl HSZD.out) rfl ⟨none, 0, ?_, ?_, (fun _ h => by cases h), ?_⟩
        · rw [HST.out]; rfl
        · rw [HST.out]; exact ⟨rfl, Row.nil, Nat.le_refl _, Nat.zero_le _⟩
        · exact HB2.out.trans (below_setRow (HB8.out.mono (by have := HW2S.out; omega)) (by have := HW2S.out; omega) (Nat.le_trans (by have := HW2S.out; omega) HB8.out.size) _)
      | some u =>
        obtain ⟨rfl, ⟨B8, d8, hM8⟩, hb8⟩ := h8
        have HR8 := Lib.hid (HR7.out.below hb8 (by have := HW2S.out; omega))
        have HB8 := Lib.hid (HB7.out.trans hb8)
        have HM8 := Lib.hid hM8
        have HST := Lib.hid hE2
        have HSZ8 := Lib.hid (show (Tryd.prog.info? 28).map (·.size) = some (thArr u B8 d8).size by rw [thArr_size B8 d8 hM8.regs]; exact Tryd.infoTh)
        clear hb8 hE hE2 hM8 g0 g1 g2 g3 g4 q1 f1 qa fa
        go_wp2_with (first | (refine wpList_load_rowW (by rfl) 28 _ rfl w3.heap.size rfl 28 (thArr u B8 d8) (0, 0) _ HM8.out.blk Tryd.underlying28 rfl HSZ8.out ?_) | (refine wpList_store_row rfl 28 _ _ rfl (w.heap.size + 2) (thArr u B8 d8) rfl rfl 28 _ HR8.out HSZ8.out (by rw [thArr_size B8 d8 HM8.out.regs]; rfl) (thArr_one u B8 d8) ?_))
        refine bodyPost_ret (results_cell3 Tryd.results29 _ _ (w.heap.size + 2) 28 (thArr u B8 d8) (0, 0) _ rfl (HR8.out.setRow _) Tryd.underlying28 rfl HSZ8.out) rfl ⟨B8, d8, ?_, ?_, (fun k hk => Nat.le_trans (by have := HW2S.out; omega) (HM8.out.own.lt k hk).1), ?_⟩
        · rw [HST.out]; rfl
        · rw [HST.out]
          have hk := HM8.out.ok
          exact ⟨hk.regs, by rw [setRow_size]; exact (own_setRow HM8.out.own (g := w.heap.size + 2) (by have := HW2S.out; omega) _).rowN.more (by rw [setRow_size]; exact Nat.le_refl _), hk.len, hk.cap⟩
        · exact HB2.out.trans (below_setRow (HB8.out.mono (by have := HW2S.out; omega)) (by have := HW2S.out; omega) (Nat.le_trans (by have := HW2S.out; omega) HB8.out.size) _)
    · refine (reckons_3 W5).mono ?_
      rintro e w5 ⟨rfl, rfl⟩
      have nf := neqf_3
      go_wp2_with fail
      refine region_schE (fun w' => Below W5.heap.size W5 w') [([0, 1, 2, 3, 4, 5, 6, 7, 8, 9, 10, 11, 12, 13, 15], 14)] [16] 17 (by kernel_rfl) (by kernel_rfl) (by kernel_rfl) (fun _ _ d _ _ h => by cases d <;> exact h) (Below.refl _ _).drew ?_
      (try simp only [Act.put, List.setIfInBounds_toArray, List.set_cons_zero, List.set_cons_succ]); refine schE_seg ?_; simp only [pickOps, List.getElem?_toArray, List.getElem?_cons_zero, List.getElem?_cons_succ]; (repeat (first | go_big_quiet_skip | (go_big_quiet_want; first | (go_big_quiet_op; first | go_big_quiet_on | ((first | with_reducible refine ⟨_, fun _ _ => rfl, ?_⟩); go_big_quiet_on)) | (simp (contextual := true) [go_sem, G1, G2, G3, R1, R2]; with_reducible refine ⟨_, fun _ _ => rfl, ?_⟩; go_big_quiet_on)))); refine wpQuiet_nil ?_
      go_wp2_with fail
      refine (pair_sub (t.regs.getD b' 0) (t.regs.getD c' 0) _).mono ?_
      rintro e w6 ⟨rfl, hb6⟩
      have HB6 := Lib.hid ((Below.refl W5.heap.size W5).drew.trans hb6)
      have HM6 := Lib.hid (HM5.out.step HB6.out)
      have HI6 := Lib.hid (HI5.out.below HB6.out HI5.out.lt)
      have HR6 := Lib.hid (HR5.out.below HB6.out HR5.out.lt)
      clear hb6 nf
      go_wp2_with fail
      refine ⟨fun w' => Below W5.heap.size W5 w', HB6.out, fun _ h => h, ?_⟩
      (try simp only [Act.put, List.setIfInBounds_toArray, List.set_cons_zero, List.set_cons_succ]); refine schE_last ?_; simp only [pickOps, List.getElem?_toArray, List.getElem?_cons_zero, List.getElem?_cons_succ]; (repeat (first | go_big_quiet_skip | (go_big_quiet_want; first | (go_big_quiet_op; first | go_big_quiet_on | ((first | with_reducible refine ⟨_, fun _ _ => rfl, ?_⟩); go_big_quiet_on)) | (simp (contextual := true) [go_sem, HB6]; with_reducible refine ⟨_, fun _ _ => rfl, ?_⟩; go_big_quiet_on)))); refine wpQuiet_nil ?_
      have q1 := (HM6.out.blk.cell 1).trans (thArr_1 A3 c3)
      rw [HPC.out] at q1
      have f1 := HM6.out.blk.frozen 1
      have qa := (HM6.out.blk.cell (2 + a)).trans (thArr_reg A3 c3 HM6.out.regs a ha8)
      have fa := HM6.out.blk.frozen (2 + a)
      have g0 := G0 w6 HB6.out
      have g1 := G1 w6 HB6.out
      have g2 := G2 w6 HB6.out
      have g3 := G3 w6 HB6.out
      have g4 := G4 w6 HB6.out
      clear G0 G1 G2 G3 G4 R0 R1 R2 j0
      have HM7 := Lib.hid ((HM6.out.set (2 + a) (.int .i64 (wrap64 (t.regs.getD b' 0 - t.regs.getD c' 0))) (thArr_setreg t A3 c3 a ha8 HM6.out.regs _) rfl rfl (by simpa using HM6.out.regs)).set 1 (.int .i64 ((m : Int) + 1)) (thArr_set1 _ A3 c3 _) rfl rfl (by simpa using HM6.out.regs))
      have HR7 := Lib.hid ((HR6.out.far (p := ⟨w3.heap.size, 2 + a, none⟩) (by show _ ≠ w3.heap.size; omega) (.int .i64 (wrap64 (t.regs.getD b' 0 - t.regs.getD c' 0)))).far (p := ⟨w3.heap.size, 1, none⟩) (by show _ ≠ w3.heap.size; omega) (.int .i64 ((m : Int) + 1)))
      have HB7 := Lib.hid (((HB5.out.trans (HB6.out.mono (Nat.le_of_lt HM5.out.size))).setCell (p := ⟨w3.heap.size, 2 + a, none⟩) hz3 (.int .i64 (wrap64 (t.regs.getD b' 0 - t.regs.getD c' 0)))).setCell (p := ⟨w3.heap.size, 1, none⟩) hz3 (.int .i64 ((m : Int) + 1)))
      have HE := Lib.hid (stepI_of (i := ⟨3, a, b', c', inn⟩) (t := t) (ans := ans) (rs := t.regs.set a (wrap64 (t.regs.getD b' 0 - t.regs.getD c' 0))) (n := 0) rfl rfl HPC.out)
      go_wp2_with fail
      refine (moves_any _ W2.heap.size w3.heap.size _ A3 c3 ⟨3, a, b', c', inn⟩ HM7.out (by simp) (by simp; omega) (by simpa using hst)).mono ?_
      rintro e w8 h8
      have hE := HE.out
      have hE2 := HSTEP.out
      rw [hE] at hE2
      generalize moveT ⟨3, a, b', c', inn⟩ _ = o at h8 hE2
      cases o with
      | none =>
        obtain ⟨rfl, hb8⟩ := h8
        have HR8 := Lib.hid (HR7.out.below hb8 (by have := HW2S.out; omega))
        have HB8 := Lib.hid (HB7.out.trans hb8)
        have HST := Lib.hid hE2
        have HSZD := Lib.hid (show (Tryd.prog.info? 28).map (·.size) = some (thArr doneT none 0).size from Tryd.infoTh)
        clear hb8 hE hE2 g0 g1 g2 g3 g4 q1 f1 qa fa
        go_wp2_with (refine wpList_store_row rfl 28 _ _ rfl (w.heap.size + 2) (thArr doneT none 0) rfl rfl 28 _ HR8.out HSZD.out rfl (thArr_one doneT none 0) ?_)
        refine bodyPost_ret (v := .tuple #[.agg (thArr doneT none 0), .int .i64 0, .bool true]) (results_cell3 Tryd.results29 _ _ (w.heap.size + 2) 28 (thArr doneT none 0) (0, 0) _ rfl (HR8.out.setRow _) Tryd.underlying28 rfl HSZD.out) rfl ⟨none, 0, ?_, ?_, (fun _ h => by cases h), ?_⟩
        · rw [HST.out]; rfl
        · rw [HST.out]; exact ⟨rfl, Row.nil, Nat.le_refl _, Nat.zero_le _⟩
        · exact HB2.out.trans (below_setRow (HB8.out.mono (by have := HW2S.out; omega)) (by have := HW2S.out; omega) (Nat.le_trans (by have := HW2S.out; omega) HB8.out.size) _)
      | some u =>
        obtain ⟨rfl, ⟨B8, d8, hM8⟩, hb8⟩ := h8
        have HR8 := Lib.hid (HR7.out.below hb8 (by have := HW2S.out; omega))
        have HB8 := Lib.hid (HB7.out.trans hb8)
        have HM8 := Lib.hid hM8
        have HST := Lib.hid hE2
        have HSZ8 := Lib.hid (show (Tryd.prog.info? 28).map (·.size) = some (thArr u B8 d8).size by rw [thArr_size B8 d8 hM8.regs]; exact Tryd.infoTh)
        clear hb8 hE hE2 hM8 g0 g1 g2 g3 g4 q1 f1 qa fa
        go_wp2_with (first | (refine wpList_load_rowW (by rfl) 28 _ rfl w3.heap.size rfl 28 (thArr u B8 d8) (0, 0) _ HM8.out.blk Tryd.underlying28 rfl HSZ8.out ?_) | (refine wpList_store_row rfl 28 _ _ rfl (w.heap.size + 2) (thArr u B8 d8) rfl rfl 28 _ HR8.out HSZ8.out (by rw [thArr_size B8 d8 HM8.out.regs]; rfl) (thArr_one u B8 d8) ?_))
        refine bodyPost_ret (results_cell3 Tryd.results29 _ _ (w.heap.size + 2) 28 (thArr u B8 d8) (0, 0) _ rfl (HR8.out.setRow _) Tryd.underlying28 rfl HSZ8.out) rfl ⟨B8, d8, ?_, ?_, (fun k hk => Nat.le_trans (by have := HW2S.out; omega) (HM8.out.own.lt k hk).1), ?_⟩
        · rw [HST.out]; rfl
        · rw [HST.out]
          have hk := HM8.out.ok
          exact ⟨hk.regs, by rw [setRow_size]; exact (own_setRow HM8.out.own (g := w.heap.size + 2) (by have := HW2S.out; omega) _).rowN.more (by rw [setRow_size]; exact Nat.le_refl _), hk.len, hk.cap⟩
        · exact HB2.out.trans (below_setRow (HB8.out.mono (by have := HW2S.out; omega)) (by have := HW2S.out; omega) (Nat.le_trans (by have := HW2S.out; omega) HB8.out.size) _)
    · refine (reckons_4 W5).mono ?_
      rintro e w5 ⟨rfl, rfl⟩
      have nf := neqf_4
      go_wp2_with fail
      refine region_schE (fun w' => Below W5.heap.size W5 w') [([0, 1, 2, 3, 4, 5, 6, 7, 8, 9, 10, 11, 12, 13, 15], 14)] [16] 17 (by kernel_rfl) (by kernel_rfl) (by kernel_rfl) (fun _ _ d _ _ h => by cases d <;> exact h) (Below.refl _ _).drew ?_
      (try simp only [Act.put, List.setIfInBounds_toArray, List.set_cons_zero, List.set_cons_succ]); refine schE_seg ?_; simp only [pickOps, List.getElem?_toArray, List.getElem?_cons_zero, List.getElem?_cons_succ]; (repeat (first | go_big_quiet_skip | (go_big_quiet_want; first | (go_big_quiet_op; first | go_big_quiet_on | ((first | with_reducible refine ⟨_, fun _ _ => rfl, ?_⟩); go_big_quiet_on)) | (simp (contextual := true) [go_sem, G1, G2, G3, R1, R2]; with_reducible refine ⟨_, fun _ _ => rfl, ?_⟩; go_big_quiet_on)))); refine wpQuiet_nil ?_
      go_wp2_with fail
      refine (pair_mul (t.regs.getD b' 0) (t.regs.getD c' 0) _).mono ?_
      rintro e w6 ⟨rfl, hb6⟩
      have HB6 := Lib.hid ((Below.refl W5.heap.size W5).drew.trans hb6)
      have HM6 := Lib.hid (HM5.out.step HB6.out)
      have HI6 := Lib.hid (HI5.out.below HB6.out HI5.out.lt)
      have HR6 := Lib.hid (HR5.out.below HB6.out HR5.out.lt)
      clear hb6 nf
      go_wp2_with fail
      refine ⟨fun w' => Below W5.heap.size W5 w', HB6.out, fun _ h => h, ?_⟩
      (try simp only [Act.put, List.setIfInBounds_toArray, List.set_cons_zero, List.set_cons_succ]); refine schE_last ?_; simp only [pickOps, List.getElem?_toArray, List.getElem?_cons_zero, List.getElem?_cons_succ]; (repeat (first | go_big_quiet_skip | (go_big_quiet_want; first | (go_big_quiet_op; first | go_big_quiet_on | ((first | with_reducible refine ⟨_, fun _ _ => rfl, ?_⟩); go_big_quiet_on)) | (simp (contextual := true) [go_sem, HB6]; with_reducible refine ⟨_, fun _ _ => rfl, ?_⟩; go_big_quiet_on)))); refine wpQuiet_nil ?_
      have q1 := (HM6.out.blk.cell 1).trans (thArr_1 A3 c3)
      rw [HPC.out] at q1
      have f1 := HM6.out.blk.frozen 1
      have qa := (HM6.out.blk.cell (2 + a)).trans (thArr_reg A3 c3 HM6.out.regs a ha8)
      have fa := HM6.out.blk.frozen (2 + a)
      have g0 := G0 w6 HB6.out
      have g1 := G1 w6 HB6.out
      have g2 := G2 w6 HB6.out
      have g3 := G3 w6 HB6.out
      have g4 := G4 w6 HB6.out
      clear G0 G1 G2 G3 G4 R0 R1 R2 j0
      have HM7 := Lib.hid ((HM6.out.set (2 + a) (.int .i64 (wrap64 (t.regs.getD b' 0 * t.regs.getD c' 0))) (thArr_setreg t A3 c3 a ha8 HM6.out.regs _) rfl rfl (by simpa using HM6.out.regs)).set 1 (.int .i64 ((m : Int) + 1)) (thArr_set1 _ A3 c3 _) rfl rfl (by simpa using HM6.out.regs))
      have HR7 := Lib.hid ((HR6.out.far (p := ⟨w3.heap.size, 2 + a, none⟩) (by show _ ≠ w3.heap.size; omega) (.int .i64 (wrap64 (t.regs.getD b' 0 * t.regs.getD c' 0)))).far (p := ⟨w3.heap.size, 1, none⟩) (by show _ ≠ w3.heap.size; omega) (.int .i64 ((m : Int) + 1)))
      have HB7 := Lib.hid (((HB5.out.trans (HB6.out.mono (Nat.le_of_lt HM5.out.size))).setCell (p := ⟨w3.heap.size, 2 + a, none⟩) hz3 (.int .i64 (wrap64 (t.regs.getD b' 0 * t.regs.getD c' 0)))).setCell (p := ⟨w3.heap.size, 1, none⟩) hz3 (.int .i64 ((m : Int) + 1)))
      have HE := Lib.hid (stepI_of (i := ⟨4, a, b', c', inn⟩) (t := t) (ans := ans) (rs := t.regs.set a (wrap64 (t.regs.getD b' 0 * t.regs.getD c' 0))) (n := 0) rfl rfl HPC.out)
      go_wp2_with fail
      refine (moves_any _ W2.heap.size w3.heap.size _ A3 c3 ⟨4, a, b', c', inn⟩ HM7.out (by simp) (by simp; omega) (by simpa using hst)).mono ?_
      rintro e w8 h8
      have hE := HE.out
      have hE2 := HSTEP.out
      rw [hE] at hE2
      generalize moveT ⟨4, a, b', c', inn⟩ _ = o at h8 hE2
      cases o with
      | none =>
        obtain ⟨rfl, hb8⟩ := h8
        have HR8 := Lib.hid (HR7.out.below hb8 (by have := HW2S.out; omega))
        have HB8 := Lib.hid (HB7.out.trans hb8)
        have HST := Lib.hid hE2
        have HSZD := Lib.hid (show (Tryd.prog.info? 28).map (·.size) = some (thArr doneT none 0).size from Tryd.infoTh)
        clear hb8 hE hE2 g0 g1 g2 g3 g4 q1 f1 qa fa
        go_wp2_with (refine wpList_store_row rfl 28 _ _ rfl (w.heap.size + 2) (thArr doneT none 0) rfl rfl 28 _ HR8.out HSZD.out rfl (thArr_one doneT none 0) ?_)
        refine bodyPost_ret (v := .tuple #[.agg (thArr doneT none 0), .int .i64 0, .bool true]) (results_cell3 Tryd.results29 _ _ (w.heap.size + 2) 28 (thArr doneT none 0) (0, 0) _ rfl (HR8.out.setRow _) Tryd.underlying28 rfl HSZD.out) rfl ⟨none, 0, ?_, ?_, (fun _ h => by cases h), ?_⟩
        · rw [HST.out]; rfl
        · rw [HST.out]; exact ⟨rfl, Row.nil, Nat.le_refl _, Nat.zero_le _⟩
        · exact HB2.out.trans (below_setRow (HB8.out.mono (by have := HW2S.out; omega)) (by have := HW2S.out; omega) (Nat.le_trans (by have := HW2S.out; omega) HB8.out.size) _)
      | some u =>
        obtain ⟨rfl, ⟨B8, d8, hM8⟩, hb8⟩ := h8
        have HR8 := Lib.hid (HR7.out.below hb8 (by have := HW2S.out; omega))
        have HB8 := Lib.hid (HB7.out.trans hb8)
        have HM8 := Lib.hid hM8
        have HST := Lib.hid hE2
        have HSZ8 := Lib.hid (show (Tryd.prog.info? 28).map (·.size) = some (thArr u B8 d8).size by rw [thArr_size B8 d8 hM8.regs]; exact Tryd.infoTh)
        clear hb8 hE hE2 hM8 g0 g1 g2 g3 g4 q1 f1 qa fa
        go_wp2_with (first | (refine wpList_load_rowW (by rfl) 28 _ rfl w3.heap.size rfl 28 (thArr u B8 d8) (0, 0) _ HM8.out.blk Tryd.underlying28 rfl HSZ8.out ?_) | (refine wpList_store_row rfl 28 _ _ rfl (w.heap.size + 2) (thArr u B8 d8) rfl rfl 28 _ HR8.out HSZ8.out (by rw [thArr_size B8 d8 HM8.out.regs]; rfl) (thArr_one u B8 d8) ?_))
        refine bodyPost_ret (results_cell3 Tryd.results29 _ _ (w.heap.size + 2) 28 (thArr u B8 d8) (0, 0) _ rfl (HR8.out.setRow _) Tryd.underlying28 rfl HSZ8.out) rfl ⟨B8, d8, ?_, ?_, (fun k hk => Nat.le_trans (by have := HW2S.out; omega) (HM8.out.own.lt k hk).1), ?_⟩
        · rw [HST.out]; rfl
        · rw [HST.out]
          have hk := HM8.out.ok
          exact ⟨hk.regs, by rw [setRow_size]; exact (own_setRow HM8.out.own (g := w.heap.size + 2) (by have := HW2S.out; omega) _).rowN.more (by rw [setRow_size]; exact Nat.le_refl _), hk.len, hk.cap⟩
        · exact HB2.out.trans (below_setRow (HB8.out.mono (by have := HW2S.out; omega)) (by have := HW2S.out; omega) (Nat.le_trans (by have := HW2S.out; omega) HB8.out.size) _)
    · refine (reckons_5 W5).mono ?_
      rintro e w5 ⟨rfl, rfl⟩
      have nf := neqf_5
      go_wp2_with fail
      refine region_schE (fun w' => Below W5.heap.size W5 w') [([0, 1, 2, 3, 4, 5, 6, 7, 8, 9, 10, 11, 12, 13, 15], 14)] [16] 17 (by kernel_rfl) (by kernel_rfl) (by kernel_rfl) (fun _ _ d _ _ h => by cases d <;> exact h) (Below.refl _ _).drew ?_
      (try simp only [Act.put, List.setIfInBounds_toArray, List.set_cons_zero, List.set_cons_succ]); refine schE_seg ?_; simp only [pickOps, List.getElem?_toArray, List.getElem?_cons_zero, List.getElem?_cons_succ]; (repeat (first | go_big_quiet_skip | (go_big_quiet_want; first | (go_big_quiet_op; first | go_big_quiet_on | ((first | with_reducible refine ⟨_, fun _ _ => rfl, ?_⟩); go_big_quiet_on)) | (simp (contextual := true) [go_sem, G1, G2, G3, R1, R2]; with_reducible refine ⟨_, fun _ _ => rfl, ?_⟩; go_big_quiet_on)))); refine wpQuiet_nil ?_
      go_wp2_with fail
      refine (pair_less (t.regs.getD b' 0) (t.regs.getD c' 0) _).mono ?_
      rintro e w6 ⟨rfl, hb6⟩
      have HB6 := Lib.hid ((Below.refl W5.heap.size W5).drew.trans hb6)
      have HM6 := Lib.hid (HM5.out.step HB6.out)
      have HI6 := Lib.hid (HI5.out.below HB6.out HI5.out.lt)
      have HR6 := Lib.hid (HR5.out.below HB6.out HR5.out.lt)
      clear hb6 nf
      go_wp2_with fail
      refine ⟨fun w' => Below W5.heap.size W5 w', HB6.out, fun _ h => h, ?_⟩
      (try simp only [Act.put, List.setIfInBounds_toArray, List.set_cons_zero, List.set_cons_succ]); refine schE_last ?_; simp only [pickOps, List.getElem?_toArray, List.getElem?_cons_zero, List.getElem?_cons_succ]; (repeat (first | go_big_quiet_skip | (go_big_quiet_want; first | (go_big_quiet_op; first | go_big_quiet_on | ((first | with_reducible refine ⟨_, fun _ _ => rfl, ?_⟩); go_big_quiet_on)) | (simp (contextual := true) [go_sem, HB6]; with_reducible refine ⟨_, fun _ _ => rfl, ?_⟩; go_big_quiet_on)))); refine wpQuiet_nil ?_
      have q1 := (HM6.out.blk.cell 1).trans (thArr_1 A3 c3)
      rw [HPC.out] at q1
      have f1 := HM6.out.blk.frozen 1
      have qa := (HM6.out.blk.cell (2 + a)).trans (thArr_reg A3 c3 HM6.out.regs a ha8)
      have fa := HM6.out.blk.frozen (2 + a)
      have g0 := G0 w6 HB6.out
      have g1 := G1 w6 HB6.out
      have g2 := G2 w6 HB6.out
      have g3 := G3 w6 HB6.out
      have g4 := G4 w6 HB6.out
      clear G0 G1 G2 G3 G4 R0 R1 R2 j0
      have HM7 := Lib.hid ((HM6.out.set (2 + a) (.int .i64 (lessV (t.regs.getD b' 0) (t.regs.getD c' 0))) (thArr_setreg t A3 c3 a ha8 HM6.out.regs _) rfl rfl (by simpa using HM6.out.regs)).set 1 (.int .i64 ((m : Int) + 1)) (thArr_set1 _ A3 c3 _) rfl rfl (by simpa using HM6.out.regs))
      have HR7 := Lib.hid ((HR6.out.far (p := ⟨w3.heap.size, 2 + a, none⟩) (by show _ ≠ w3.heap.size; omega) (.int .i64 (lessV (t.regs.getD b' 0) (t.regs.getD c' 0)))).far (p := ⟨w3.heap.size, 1, none⟩) (by show _ ≠ w3.heap.size; omega) (.int .i64 ((m : Int) + 1)))
      have HB7 := Lib.hid (((HB5.out.trans (HB6.out.mono (Nat.le_of_lt HM5.out.size))).setCell (p := ⟨w3.heap.size, 2 + a, none⟩) hz3 (.int .i64 (lessV (t.regs.getD b' 0) (t.regs.getD c' 0)))).setCell (p := ⟨w3.heap.size, 1, none⟩) hz3 (.int .i64 ((m : Int) + 1)))
      have HE := Lib.hid (stepI_of (i := ⟨5, a, b', c', inn⟩) (t := t) (ans := ans) (rs := t.regs.set a (lessV (t.regs.getD b' 0) (t.regs.getD c' 0))) (n := 0) rfl rfl HPC.out)
      go_wp2_with fail
      refine (moves_any _ W2.heap.size w3.heap.size _ A3 c3 ⟨5, a, b', c', inn⟩ HM7.out (by simp) (by simp; omega) (by simpa using hst)).mono ?_
      rintro e w8 h8
      have hE := HE.out
      have hE2 := HSTEP.out
      rw [hE] at hE2
      generalize moveT ⟨5, a, b', c', inn⟩ _ = o at h8 hE2
      cases o with
      | none =>
        obtain ⟨rfl, hb8⟩ := h8
        have HR8 := Lib.hid (HR7.out.below hb8 (by have := HW2S.out; omega))
        have HB8 := Lib.hid (HB7.out.trans hb8)
        have HST := Lib.hid hE2
        have HSZD := Lib.hid (show (Tryd.prog.info? 28).map (·.size) = some (thArr doneT none 0).size from Tryd.infoTh)
        clear hb8 hE hE2 g0 g1 g2 g3 g4 q1 f1 qa fa
        go_wp2_with (refine wpList_store_row rfl 28 _ _ rfl (w.heap.size + 2) (thArr doneT none 0) rfl rfl 28 _ HR8.out HSZD.out rfl (thArr_one doneT none 0) ?_)
        refine bodyPost_ret (v := .tuple #[.agg (thArr doneT none 0), .int .i64 0, .bool true]) (results_cell3 Tryd.results29 _ _ (w.heap.size + 2) 28 (thArr doneT none 0) (0, 0) _ rfl (HR8.out.setRow _) Tryd.underlying28 rfl HSZD.out) rfl ⟨none, 0, ?_, ?_, (fun _ h => by cases h), ?_⟩
        · rw [HST.out]; rfl
        · rw [HST.out]; exact ⟨rfl, Row.nil, Nat.le_refl _, Nat.zero_le _⟩
        · exact HB2.out.trans (below_setRow (HB8.out.mono (by have := HW2S.out; omega)) (by have := HW2S.out; omega) (Nat.le_trans (by have := HW2S.out; omega) HB8.out.size) _)
      | some u =>
        obtain ⟨rfl, ⟨B8, d8, hM8⟩, hb8⟩ := h8
        have HR8 := Lib.hid (HR7.out.below hb8 (by have := HW2S.out; omega))
        have HB8 := Lib.hid (HB7.out.trans hb8)
        have HM8 := Lib.hid hM8
        have HST := Lib.hid hE2
        have HSZ8 := Lib.hid (show (Tryd.prog.info? 28).map (·.size) = some (thArr u B8 d8).size by rw [thArr_size B8 d8 hM8.regs]; exact Tryd.infoTh)
        clear hb8 hE hE2 hM8 g0 g1 g2 g3 g4 q1 f1 qa fa
        go_wp2_with (first | (refine wpList_load_rowW (by rfl) 28 _ rfl w3.heap.size rfl 28 (thArr u B8 d8) (0, 0) _ HM8.out.blk Tryd.underlying28 rfl HSZ8.out ?_) | (refine wpList_store_row rfl 28 _ _ rfl (w.heap.size + 2) (thArr u B8 d8) rfl rfl 28 _ HR8.out HSZ8.out (by rw [thArr_size B8 d8 HM8.out.regs]; rfl) (thArr_one u B8 d8) ?_))
        refine bodyPost_ret (results_cell3 Tryd.results29 _ _ (w.heap.size + 2) 28 (thArr u B8 d8) (0, 0) _ rfl (HR8.out.setRow _) Tryd.underlying28 rfl HSZ8.out) rfl ⟨B8, d8, ?_, ?_, (fun k hk => Nat.le_trans (by have := HW2S.out; omega) (HM8.out.own.lt k hk).1), ?_⟩
        · rw [HST.out]; rfl
        · rw [HST.out]
          have hk := HM8.out.ok
          exact ⟨hk.regs, by rw [setRow_size]; exact (own_setRow HM8.out.own (g := w.heap.size + 2) (by have := HW2S.out; omega) _).rowN.more (by rw [setRow_size]; exact Nat.le_refl _), hk.len, hk.cap⟩
        · exact HB2.out.trans (below_setRow (HB8.out.mono (by have := HW2S.out; omega)) (by have := HW2S.out; omega) (Nat.le_trans (by have := HW2S.out; omega) HB8.out.size) _)
  · have o2 : op ≠ 2 := fun h => hkind (.inl h)
    have o3 : op ≠ 3 := fun h => hkind (.inr (.inl h))
    have o4 : op ≠ 4 := fun h => hkind (.inr (.inr (.inl h)))
    have o5 : op ≠ 5 := fun h => hkind (.inr (.inr (.inr h)))
    clear hkind
    have nf := neqf_no
    refine (reckons_no op o2 o3 o4 o5 W5).mono ?_
    rintro e w5 ⟨rfl, rfl⟩
    by_cases o1 : op = 1
    · subst o1
      have HB6 := Lib.hid (Below.refl W5.heap.size W5)
      have HM6 := HM5
      have HI6 := HI5
      have HR6 := HR5
      have q1 := (HM6.out.blk.cell 1).trans (thArr_1 A3 c3)
      rw [HPC.out] at q1
      have f1 := HM6.out.blk.frozen 1
      have qa := (HM6.out.blk.cell (2 + a)).trans (thArr_reg A3 c3 HM6.out.regs a ha8)
      have fa := HM6.out.blk.frozen (2 + a)
      have g0 := G0 W5 HB6.out
      have g1 := G1 W5 HB6.out
      have g2 := G2 W5 HB6.out
      have g3 := G3 W5 HB6.out
      have g4 := G4 W5 HB6.out
      clear G0 G1 G2 G3 G4 R0 R1 R2 j0
      have HM7 := Lib.hid ((HM6.out.set (2 + a) (.int .i64 (inn)) (thArr_setreg t A3 c3 a ha8 HM6.out.regs _) rfl rfl (by simpa using HM6.out.regs)).set 1 (.int .i64 ((m : Int) + 1)) (thArr_set1 _ A3 c3 _) rfl rfl (by simpa using HM6.out.regs))
      have HR7 := Lib.hid ((HR6.out.far (p := ⟨w3.heap.size, 2 + a, none⟩) (by show _ ≠ w3.heap.size; omega) (.int .i64 (inn))).far (p := ⟨w3.heap.size, 1, none⟩) (by show _ ≠ w3.heap.size; omega) (.int .i64 ((m : Int) + 1)))
      have HB7 := Lib.hid (((HB5.out.trans (HB6.out.mono (Nat.le_of_lt HM5.out.size))).setCell (p := ⟨w3.heap.size, 2 + a, none⟩) hz3 (.int .i64 (inn))).setCell (p := ⟨w3.heap.size, 1, none⟩) hz3 (.int .i64 ((m : Int) + 1)))
      have HE := Lib.hid (stepI_of (i := ⟨1, a, b', c', inn⟩) (t := t) (ans := ans) (rs := t.regs.set a inn) (n := 0) rfl rfl HPC.out)
      clear o2 o3 o4 o5
      go_wp2_with fail
      clear nf
      refine (moves_any _ W2.heap.size w3.heap.size _ A3 c3 ⟨1, a, b', c', inn⟩ HM7.out (by simp) (by simp; omega) (by simpa using hst)).mono ?_
      rintro e w8 h8
      have hE := HE.out
      have hE2 := HSTEP.out
      rw [hE] at hE2
      generalize moveT ⟨1, a, b', c', inn⟩ _ = o at h8 hE2
      cases o with
      | none =>
        obtain ⟨rfl, hb8⟩ := h8
        have HR8 := Lib.hid (HR7.out.below hb8 (by have := HW2S.out; omega))
        have HB8 := Lib.hid (HB7.out.trans hb8)
        have HST := Lib.hid hE2
        have HSZD := Lib.hid (show (Tryd.prog.info? 28).map (·.size) = some (thArr doneT none 0).size from Tryd.infoTh)
        clear hb8 hE hE2 g0 g1 g2 g3 g4 q1 f1 qa fa
        go_wp2_with (refine wpList_store_row rfl 28 _ _ rfl (w.heap.size + 2) (thArr doneT none 0) rfl rfl 28 _ HR8.out HSZD.out rfl (thArr_one doneT none 0) ?_)
        refine bodyPost_ret (v := .tuple #[.agg (thArr doneT none 0), .int .i64 0, .bool true]) (results_cell3 Tryd.results29 _ _ (w.heap.size + 2) 28 (thArr doneT none 0) (0, 0) _ rfl (HR8.out.setRow _) Tryd.underlying28 rfl HSZD.out) rfl ⟨none, 0, ?_, ?_, (fun _ h => by cases h), ?_⟩
        · rw [HST.out]; rfl
        · rw [HST.out]; exact ⟨rfl, Row.nil, Nat.le_refl _, Nat.zero_le _⟩
        · exact HB2.out.trans (below_setRow (HB8.out.mono (by have := HW2S.out; omega)) (by have := HW2S.out; omega) (Nat.le_trans (by have := HW2S.out; omega) HB8.out.size) _)
      | some u =>
        obtain ⟨rfl, ⟨B8, d8, hM8⟩, hb8⟩ := h8
        have HR8 := Lib.hid (HR7.out.below hb8 (by have := HW2S.out; omega))
        have HB8 := Lib.hid (HB7.out.trans hb8)
        have HM8 := Lib.hid hM8
        have HST := Lib.hid hE2
        have HSZ8 := Lib.hid (show (Tryd.prog.info? 28).map (·.size) = some (thArr u B8 d8).size by rw [thArr_size B8 d8 hM8.regs]; exact Tryd.infoTh)
        clear hb8 hE hE2 hM8 g0 g1 g2 g3 g4 q1 f1 qa fa
        go_wp2_with (first | (refine wpList_load_rowW (by rfl) 28 _ rfl w3.heap.size rfl 28 (thArr u B8 d8) (0, 0) _ HM8.out.blk Tryd.underlying28 rfl HSZ8.out ?_) | (refine wpList_store_row rfl 28 _ _ rfl (w.heap.size + 2) (thArr u B8 d8) rfl rfl 28 _ HR8.out HSZ8.out (by rw [thArr_size B8 d8 HM8.out.regs]; rfl) (thArr_one u B8 d8) ?_))
        refine bodyPost_ret (results_cell3 Tryd.results29 _ _ (w.heap.size + 2) 28 (thArr u B8 d8) (0, 0) _ rfl (HR8.out.setRow _) Tryd.underlying28 rfl HSZ8.out) rfl ⟨B8, d8, ?_, ?_, (fun k hk => Nat.le_trans (by have := HW2S.out; omega) (HM8.out.own.lt k hk).1), ?_⟩
        · rw [HST.out]; rfl
        · rw [HST.out]
          have hk := HM8.out.ok
          exact ⟨hk.regs, by rw [setRow_size]; exact (own_setRow HM8.out.own (g := w.heap.size + 2) (by have := HW2S.out; omega) _).rowN.more (by rw [setRow_size]; exact Nat.le_refl _), hk.len, hk.cap⟩
        · exact HB2.out.trans (below_setRow (HB8.out.mono (by have := HW2S.out; omega)) (by have := HW2S.out; omega) (Nat.le_trans (by have := HW2S.out; omega) HB8.out.size) _)
    by_cases o15 : op = 15
    · subst o15
      have HB6 := Lib.hid (Below.refl W5.heap.size W5)
      have HM6 := HM5
      have HI6 := HI5
      have HR6 := HR5
      have r0 := R0 W5 HB6.out
      have q1 := (HM6.out.blk.cell 1).trans (thArr_1 A3 c3)
      rw [HPC.out] at q1
      have f1 := HM6.out.blk.frozen 1
      have qa := (HM6.out.blk.cell (2 + a)).trans (thArr_reg A3 c3 HM6.out.regs a ha8)
      have fa := HM6.out.blk.frozen (2 + a)
      have g0 := G0 W5 HB6.out
      have g1 := G1 W5 HB6.out
      have g2 := G2 W5 HB6.out
      have g3 := G3 W5 HB6.out
      have g4 := G4 W5 HB6.out
      clear G0 G1 G2 G3 G4 R0 R1 R2 j0
      have HM7 := Lib.hid (HM6.out.set 1 (.int .i64 ((m : Int) + 1)) (thArr_set1 _ A3 c3 _) rfl rfl HM6.out.regs)
      have HR7 := Lib.hid (HR6.out.far (p := ⟨w3.heap.size, 1, none⟩) (by show _ ≠ w3.heap.size; omega) (.int .i64 ((m : Int) + 1)))
      have HB7 := Lib.hid ((HB5.out.trans (HB6.out.mono (Nat.le_of_lt HM5.out.size))).setCell (p := ⟨w3.heap.size, 1, none⟩) hz3 (.int .i64 ((m : Int) + 1)))
      have HE := Lib.hid (stepI_of (i := ⟨15, a, b', c', inn⟩) (t := t) (ans := ans) (rs := t.regs) (n := t.regs.getD a 0) rfl rfl HPC.out)
      clear o1 o2 o3 o4 o5
      go_wp2_with fail
      clear nf r0
      refine (moves_any _ W2.heap.size w3.heap.size _ A3 c3 ⟨15, a, b', c', inn⟩ HM7.out (by simp) (by simp; omega) (by simpa using hst)).mono ?_
      rintro e w8 h8
      have hE := HE.out
      have hE2 := HSTEP.out
      rw [hE] at hE2
      generalize moveT ⟨15, a, b', c', inn⟩ _ = o at h8 hE2
      cases o with
      | none =>
        obtain ⟨rfl, hb8⟩ := h8
        have HR8 := Lib.hid (HR7.out.below hb8 (by have := HW2S.out; omega))
        have HB8 := Lib.hid (HB7.out.trans hb8)
        have HST := Lib.hid hE2
        have HSZD := Lib.hid (show (Tryd.prog.info? 28).map (·.size) = some (thArr doneT none 0).size from Tryd.infoTh)
        clear hb8 hE hE2 g0 g1 g2 g3 g4 q1 f1 qa fa
        go_wp2_with (refine wpList_store_row rfl 28 _ _ rfl (w.heap.size + 2) (thArr doneT none 0) rfl rfl 28 _ HR8.out HSZD.out rfl (thArr_one doneT none 0) ?_)
        refine bodyPost_ret (v := .tuple #[.agg (thArr doneT none 0), .int .i64 0, .bool true]) (results_cell3 Tryd.results29 _ _ (w.heap.size + 2) 28 (thArr doneT none 0) (0, 0) _ rfl (HR8.out.setRow _) Tryd.underlying28 rfl HSZD.out) rfl ⟨none, 0, ?_, ?_, (fun _ h => by cases h), ?_⟩
        · rw [HST.out]; rfl
        · rw [HST.out]; exact ⟨rfl, Row.nil, Nat.le_refl _, Nat.zero_le _⟩
        · exact HB2.out.trans (below_setRow (HB8.out.mono (by have := HW2S.out; omega)) (by have := HW2S.out; omega) (Nat.le_trans (by have := HW2S.out; omega) HB8.out.size) _)
      | some u =>
        obtain ⟨rfl, ⟨B8, d8, hM8⟩, hb8⟩ := h8
        have HR8 := Lib.hid (HR7.out.below hb8 (by have := HW2S.out; omega))
        have HB8 := Lib.hid (HB7.out.trans hb8)
        have HM8 := Lib.hid hM8
        have HST := Lib.hid hE2
        have HSZ8 := Lib.hid (show (Tryd.prog.info? 28).map (·.size) = some (thArr u B8 d8).size by rw [thArr_size B8 d8 hM8.regs]; exact Tryd.infoTh)
        clear hb8 hE hE2 hM8 g0 g1 g2 g3 g4 q1 f1 qa fa
        go_wp2_with (first | (refine wpList_load_rowW (by rfl) 28 _ rfl w3.heap.size rfl 28 (thArr u B8 d8) (0, 0) _ HM8.out.blk Tryd.underlying28 rfl HSZ8.out ?_) | (refine wpList_store_row rfl 28 _ _ rfl (w.heap.size + 2) (thArr u B8 d8) rfl rfl 28 _ HR8.out HSZ8.out (by rw [thArr_size B8 d8 HM8.out.regs]; rfl) (thArr_one u B8 d8) ?_))
        refine bodyPost_ret (results_cell3 Tryd.results29 _ _ (w.heap.size + 2) 28 (thArr u B8 d8) (0, 0) _ rfl (HR8.out.setRow _) Tryd.underlying28 rfl HSZ8.out) rfl ⟨B8, d8, ?_, ?_, (fun k hk => Nat.le_trans (by have := HW2S.out; omega) (HM8.out.own.lt k hk).1), ?_⟩
        · rw [HST.out]; rfl
        · rw [HST.out]
          have hk := HM8.out.ok
          exact ⟨hk.regs, by rw [setRow_size]; exact (own_setRow HM8.out.own (g := w.heap.size + 2) (by have := HW2S.out; omega) _).rowN.more (by rw [setRow_size]; exact Nat.le_refl _), hk.len, hk.cap⟩
        · exact HB2.out.trans (below_setRow (HB8.out.mono (by have := HW2S.out; omega)) (by have := HW2S.out; omega) (Nat.le_trans (by have := HW2S.out; omega) HB8.out.size) _)
    · have d1 : (op == 1) = false := by simpa using o1
      have d15 : (op == 15) = false := by simpa using o15
      have hra : regs1 ⟨op, a, b', c', inn⟩ t ans = if opAsks op = true then t.regs.set a ans else t.regs := by
        unfold regs1 reckonV
        simp only
        rw [if_neg o2, if_neg o3, if_neg o4, if_neg o5]
        simp only
        rw [if_neg o1]
        rfl
      have hta : tells1 ⟨op, a, b', c', inn⟩ t ans = if opAsks op = true then ans else 0 := by
        unfold tells1
        simp only
        rw [if_neg o15]
      have HRA := Lib.hid hra
      have HTL := Lib.hid hta
      clear o1 o2 o3 o4 o5 o15 hra hta
      go_wp2_with fail
      refine (isaAsks_any op W5 ((HTA.out.step HB2.out).step HB5.out)).mono ?_
      rintro e w6 ⟨rfl, hb6⟩
      have HB6 := Lib.hid hb6
      have HM6 := Lib.hid (HM5.out.step HB6.out)
      have HI6 := Lib.hid (HI5.out.below HB6.out HI5.out.lt)
      have HR6 := Lib.hid (HR5.out.below HB6.out HR5.out.lt)
      clear hb6 nf
      have q1 := (HM6.out.blk.cell 1).trans (thArr_1 A3 c3)
      rw [HPC.out] at q1
      have f1 := HM6.out.blk.frozen 1
      have qa := (HM6.out.blk.cell (2 + a)).trans (thArr_reg A3 c3 HM6.out.regs a ha8)
      have fa := HM6.out.blk.frozen (2 + a)
      have g0 := G0 w6 HB6.out
      have g1 := G1 w6 HB6.out
      have g2 := G2 w6 HB6.out
      have g3 := G3 w6 HB6.out
      have g4 := G4 w6 HB6.out
      clear G0 G1 G2 G3 G4 R0 R1 R2 j0
      cases hask : opAsks op with
      | true =>
        have e1 := HRA.out
        have e2 := HTL.out
        rw [hask, if_pos rfl] at e1 e2
        have HE := Lib.hid (stepI_of (i := ⟨op, a, b', c', inn⟩) (t := t) (ans := ans) (rs := t.regs.set a ans) (n := ans) e1 e2 HPC.out)
        clear e1 e2 hask
        have HM7 := Lib.hid ((HM6.out.set (2 + a) (.int .i64 (ans)) (thArr_setreg t A3 c3 a ha8 HM6.out.regs _) rfl rfl (by simpa using HM6.out.regs)).set 1 (.int .i64 ((m : Int) + 1)) (thArr_set1 _ A3 c3 _) rfl rfl (by simpa using HM6.out.regs))
        have HR7 := Lib.hid ((HR6.out.far (p := ⟨w3.heap.size, 2 + a, none⟩) (by show _ ≠ w3.heap.size; omega) (.int .i64 (ans))).far (p := ⟨w3.heap.size, 1, none⟩) (by show _ ≠ w3.heap.size; omega) (.int .i64 ((m : Int) + 1)))
        have HB7 := Lib.hid (((HB5.out.trans (HB6.out.mono (Nat.le_of_lt HM5.out.size))).setCell (p := ⟨w3.heap.size, 2 + a, none⟩) hz3 (.int .i64 (ans))).setCell (p := ⟨w3.heap.size, 1, none⟩) hz3 (.int .i64 ((m : Int) + 1)))
        go_wp2_with fail
        refine (moves_any _ W2.heap.size w3.heap.size _ A3 c3 ⟨op, a, b', c', inn⟩ HM7.out (by simp) (by simp; omega) (by simpa using hst)).mono ?_
        rintro e w8 h8
        have hE := HE.out
        have hE2 := HSTEP.out
        rw [hE] at hE2
        generalize moveT ⟨op, a, b', c', inn⟩ _ = o at h8 hE2
        cases o with
        | none =>
          obtain ⟨rfl, hb8⟩ := h8
          have HR8 := Lib.hid (HR7.out.below hb8 (by have := HW2S.out; omega))
          have HB8 := Lib.hid (HB7.out.trans hb8)
          have HST := Lib.hid hE2
          have HSZD := Lib.hid (show (Tryd.prog.info? 28).map (·.size) = some (thArr doneT none 0).size from Tryd.infoTh)
          clear hb8 hE hE2 g0 g1 g2 g3 g4 q1 f1 qa fa
          go_wp2_with (refine wpList_store_row rfl 28 _ _ rfl (w.heap.size + 2) (thArr doneT none 0) rfl rfl 28 _ HR8.out HSZD.out rfl (thArr_one doneT none 0) ?_)
          refine bodyPost_ret (v := .tuple #[.agg (thArr doneT none 0), .int .i64 0, .bool true]) (results_cell3 Tryd.results29 _ _ (w.heap.size + 2) 28 (thArr doneT none 0) (0, 0) _ rfl (HR8.out.setRow _) Tryd.underlying28 rfl HSZD.out) rfl ⟨none, 0, ?_, ?_, (fun _ h => by cases h), ?_⟩
          · rw [HST.out]; rfl
          · rw [HST.out]; exact ⟨rfl, Row.nil, Nat.le_refl _, Nat.zero_le _⟩
          · exact HB2.out.trans (below_setRow (HB8.out.mono (by have := HW2S.out; omega)) (by have := HW2S.out; omega) (Nat.le_trans (by have := HW2S.out; omega) HB8.out.size) _)
        | some u =>
          obtain ⟨rfl, ⟨B8, d8, hM8⟩, hb8⟩ := h8
          have HR8 := Lib.hid (HR7.out.below hb8 (by have := HW2S.out; omega))
          have HB8 := Lib.hid (HB7.out.trans hb8)
          have HM8 := Lib.hid hM8
          have HST := Lib.hid hE2
          have HSZ8 := Lib.hid (show (Tryd.prog.info? 28).map (·.size) = some (thArr u B8 d8).size by rw [thArr_size B8 d8 hM8.regs]; exact Tryd.infoTh)
          clear hb8 hE hE2 hM8 g0 g1 g2 g3 g4 q1 f1 qa fa
          go_wp2_with (first | (refine wpList_load_rowW (by rfl) 28 _ rfl w3.heap.size rfl 28 (thArr u B8 d8) (0, 0) _ HM8.out.blk Tryd.underlying28 rfl HSZ8.out ?_) | (refine wpList_store_row rfl 28 _ _ rfl (w.heap.size + 2) (thArr u B8 d8) rfl rfl 28 _ HR8.out HSZ8.out (by rw [thArr_size B8 d8 HM8.out.regs]; rfl) (thArr_one u B8 d8) ?_))
          refine bodyPost_ret (results_cell3 Tryd.results29 _ _ (w.heap.size + 2) 28 (thArr u B8 d8) (0, 0) _ rfl (HR8.out.setRow _) Tryd.underlying28 rfl HSZ8.out) rfl ⟨B8, d8, ?_, ?_, (fun k hk => Nat.le_trans (by have := HW2S.out; omega) (HM8.out.own.lt k hk).1), ?_⟩
          · rw [HST.out]; rfl
          · rw [HST.out]
            have hk := HM8.out.ok
            exact ⟨hk.regs, by rw [setRow_size]; exact (own_setRow HM8.out.own (g := w.heap.size + 2) (by have := HW2S.out; omega) _).rowN.more (by rw [setRow_size]; exact Nat.le_refl _), hk.len, hk.cap⟩
          · exact HB2.out.trans (below_setRow (HB8.out.mono (by have := HW2S.out; omega)) (by have := HW2S.out; omega) (Nat.le_trans (by have := HW2S.out; omega) HB8.out.size) _)
      | false =>
        have e1 := HRA.out
        have e2 := HTL.out
        rw [hask, if_neg (by decide)] at e1 e2
        have HE := Lib.hid (stepI_of (i := ⟨op, a, b', c', inn⟩) (t := t) (ans := ans) (rs := t.regs) (n := 0) e1 e2 HPC.out)
        clear e1 e2 hask
        have HM7 := Lib.hid (HM6.out.set 1 (.int .i64 ((m : Int) + 1)) (thArr_set1 _ A3 c3 _) rfl rfl HM6.out.regs)
        have HR7 := Lib.hid (HR6.out.far (p := ⟨w3.heap.size, 1, none⟩) (by show _ ≠ w3.heap.size; omega) (.int .i64 ((m : Int) + 1)))
        have HB7 := Lib.hid ((HB5.out.trans (HB6.out.mono (Nat.le_of_lt HM5.out.size))).setCell (p := ⟨w3.heap.size, 1, none⟩) hz3 (.int .i64 ((m : Int) + 1)))
        go_wp2_with fail
        refine (moves_any _ W2.heap.size w3.heap.size _ A3 c3 ⟨op, a, b', c', inn⟩ HM7.out (by simp) (by simp; omega) (by simpa using hst)).mono ?_
        rintro e w8 h8
        have hE := HE.out
        have hE2 := HSTEP.out
        rw [hE] at hE2
        generalize moveT ⟨op, a, b', c', inn⟩ _ = o at h8 hE2
        cases o with
        | none =>
          obtain ⟨rfl, hb8⟩ := h8
          have HR8 := Lib.hid (HR7.out.below hb8 (by have := HW2S.out; omega))
          have HB8 := Lib.hid (HB7.out.trans hb8)
          have HST := Lib.hid hE2
          have HSZD := Lib.hid (show (Tryd.prog.info? 28).map (·.size) = some (thArr doneT none 0).size from Tryd.infoTh)
          clear hb8 hE hE2 g0 g1 g2 g3 g4 q1 f1 qa fa
          go_wp2_with (refine wpList_store_row rfl 28 _ _ rfl (w.heap.size + 2) (thArr doneT none 0) rfl rfl 28 _ HR8.out HSZD.out rfl (thArr_one doneT none 0) ?_)
          refine bodyPost_ret (v := .tuple #[.agg (thArr doneT none 0), .int .i64 0, .bool true]) (results_cell3 Tryd.results29 _ _ (w.heap.size + 2) 28 (thArr doneT none 0) (0, 0) _ rfl (HR8.out.setRow _) Tryd.underlying28 rfl HSZD.out) rfl ⟨none, 0, ?_, ?_, (fun _ h => by cases h), ?_⟩
          · rw [HST.out]; rfl
          · rw [HST.out]; exact ⟨rfl, Row.nil, Nat.le_refl _, Nat.zero_le _⟩
          · exact HB2.out.trans (below_setRow (HB8.out.mono (by have := HW2S.out; omega)) (by have := HW2S.out; omega) (Nat.le_trans (by have := HW2S.out; omega) HB8.out.size) _)
        | some u =>
          obtain ⟨rfl, ⟨B8, d8, hM8⟩, hb8⟩ := h8
          have HR8 := Lib.hid (HR7.out.below hb8 (by have := HW2S.out; omega))
          have HB8 := Lib.hid (HB7.out.trans hb8)
          have HM8 := Lib.hid hM8
          have HST := Lib.hid hE2
          have HSZ8 := Lib.hid (show (Tryd.prog.info? 28).map (·.size) = some (thArr u B8 d8).size by rw [thArr_size B8 d8 hM8.regs]; exact Tryd.infoTh)
          clear hb8 hE hE2 hM8 g0 g1 g2 g3 g4 q1 f1 qa fa
          go_wp2_with (first | (refine wpList_load_rowW (by rfl) 28 _ rfl w3.heap.size rfl 28 (thArr u B8 d8) (0, 0) _ HM8.out.blk Tryd.underlying28 rfl HSZ8.out ?_) | (refine wpList_store_row rfl 28 _ _ rfl (w.heap.size + 2) (thArr u B8 d8) rfl rfl 28 _ HR8.out HSZ8.out (by rw [thArr_size B8 d8 HM8.out.regs]; rfl) (thArr_one u B8 d8) ?_))
          refine bodyPost_ret (results_cell3 Tryd.results29 _ _ (w.heap.size + 2) 28 (thArr u B8 d8) (0, 0) _ rfl (HR8.out.setRow _) Tryd.underlying28 rfl HSZ8.out) rfl ⟨B8, d8, ?_, ?_, (fun k hk => Nat.le_trans (by have := HW2S.out; omega) (HM8.out.own.lt k hk).1), ?_⟩
          · rw [HST.out]; rfl
          · rw [HST.out]
            have hk := HM8.out.ok
            exact ⟨hk.regs, by rw [setRow_size]; exact (own_setRow HM8.out.own (g := w.heap.size + 2) (by have := HW2S.out; omega) _).rowN.more (by rw [setRow_size]; exact Nat.le_refl _), hk.len, hk.cap⟩
          · exact HB2.out.trans (below_setRow (HB8.out.mono (by have := HW2S.out; omega)) (by have := HW2S.out; omega) (Nat.le_trans (by have := HW2S.out; omega) HB8.out.size) _)
end Go.Proofs.YtoacnphgkgklcaaDoor

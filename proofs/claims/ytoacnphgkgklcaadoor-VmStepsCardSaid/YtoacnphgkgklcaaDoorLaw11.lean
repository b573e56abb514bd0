/-
  Chapter 11: the law VmMakes returns true, whatever is handed in. Condition: the table isa.rows.
-/
import Derived.Test.YtoacnphgkgklcaaDoorAl11
namespace Go.Proofs.YtoacnphgkgklcaaDoor
open Go.RowKit
theorem quiet_load_row {P : Program} {ops : Array Oper} {C : World → Prop} {Q : Act → Prop} {rest : List Oper} {o : Oper} {a : Act} (hw : Region.wanted o (yielded ops a.tmps) = true) (ty : TypeId) (x : Operand) (ho : o.op = .load ty x)
    (g : Nat) (hx : a.eval x = .pointer (some ⟨g, 0, none⟩)) (cs : Array Value) (hl : ∀ w, C w → (loadVar ty ⟨g, 0, none⟩).run P w = .ok (.agg cs) w) (h : wpQuiet P ops C Q rest (a.put o.dst (.agg cs))) : wpQuiet P ops C Q (o :: rest) a := by
  unfold wpQuiet
  rw [if_pos hw]
  refine ⟨.agg cs, fun w hC => ?_, h⟩
  unfold Oper.quietAt execOp
  simp only [ho, hx, Instr.loadAt, Instr.sureAddr, Sem.run_bind, Sem.run_pure, Result.andThen_ok, hl w hC]
  exact ⟨rfl, rfl⟩
theorem sameT_self (t : Th) : sameT t t = true := by simp [sameT]
set_option maxHeartbeats 8000000 in
set_option maxRecDepth 100000 in
theorem makes11 (fn arg : Int) (t u : Th) (A B : Option Addr) (c d : Nat) (w : World) (hT : Tab w) (ht : ThOk w w.heap.size t A c) (hu : ThOk w w.heap.size u B d) :
    Calls Tryd.prog 4 #[.int .i64 fn, .int .i64 arg, .agg (thArr t A c), .agg (thArr u B d)] w fun e w' => e = .returned (.bool true) ∧ Below w.heap.size w w' := by
  have HT := Lib.hid hT
  have HTT := Lib.hid ht
  have HTU := Lib.hid hu
  have h10 := thArr_10 A c ht.regs
  have k10 := thArr_10 B d hu.regs
  have hlt := Nat.le_trans ht.len ht.cap
  have hlu := Nat.le_trans hu.len hu.cap
  unfold maxLen at hlt hlu
  have HSX := Lib.hid (show (Tryd.prog.info? 28).map (·.size) = some (thArr t A c).size by rw [thArr_size A c ht.regs]; exact Tryd.infoTh)
  have HSY := Lib.hid (show (Tryd.prog.info? 28).map (·.size) = some (thArr u B d).size by rw [thArr_size B d hu.regs]; exact Tryd.infoTh)
  generalize hX : thArr t A c = X at *
  generalize hY : thArr u B d = Y at *
  have HX := Lib.hid hX
  have HY := Lib.hid hY
  have hb0 := below2 w (.cells X 28) (.cells Y 28)
  have hW : ∃ W : World, Hid (W = (w.alloc (.cells X 28)).alloc (.cells Y 28)) := ⟨_, rfl⟩
  obtain ⟨W, HW⟩ := hW
  have hBX : Blk W w.heap.size 28 X := by rw [HW.out]; exact (Blk.new w _ _).alloc _
  have hBY : Blk W (w.heap.size + 1) 28 Y := by rw [HW.out]; exact heap_alloc2_new w _ _
  rw [← HW.out] at hb0
  have HB0 := Lib.hid hb0
  have HBX := Lib.hid hBX
  have HBY := Lib.hid hBY
  clear hb0 hBX hBY hX hY hT ht hu
  by_cases h1 : 100 < t.stack.length
  · have hd1 : decide ((100 : Int) < t.stack.length) = true := by simp; omega
    go_enter Tryd.func4, Tryd.ntmps4
    go_wp2_with fail
    rw [← HW.out]
    refine (alive11 W (HT.out.step HB0.out)).mono ?_
    rintro e w1 ⟨rfl, hb⟩
    have HB1 := Lib.hid (HB0.out.trans (hb.mono HB0.out.size))
    clear hb
    go_wp2_with fail
    go_ret
    exact ⟨rfl, HB1.out⟩
  have hd1 : decide ((100 : Int) < t.stack.length) = false := by simp; omega
  by_cases h2 : 100 < u.stack.length
  · have hd2 : decide ((100 : Int) < u.stack.length) = true := by simp; omega
    go_enter Tryd.func4, Tryd.ntmps4
    go_wp2_with fail
    rw [← HW.out]
    refine (alive11 W (HT.out.step HB0.out)).mono ?_
    rintro e w1 ⟨rfl, hb⟩
    have HB1 := Lib.hid (HB0.out.trans (hb.mono HB0.out.size))
    clear hb
    go_wp2_with fail
    go_ret
    exact ⟨rfl, HB1.out⟩
  have hd2 : decide ((100 : Int) < u.stack.length) = false := by simp; omega
  go_enter Tryd.func4, Tryd.ntmps4
  go_wp2_with fail
  rw [← HW.out]
  have LX : ∀ w', Below W.heap.size W w' → (loadVar 28 ⟨w.heap.size, 0, none⟩).run Tryd.prog w' = .ok (.agg X) w' := fun w' h => run_loadVar_row w' _ _ _ X (0, 0) _ (HBX.out.below h HBX.out.lt) Tryd.underlying28 rfl HSX.out
  have LY : ∀ w', Below W.heap.size W w' → (loadVar 28 ⟨w.heap.size + 1, 0, none⟩).run Tryd.prog w' = .ok (.agg Y) w' := fun w' h => run_loadVar_row w' _ _ _ Y (0, 0) _ (HBY.out.below h HBY.out.lt) Tryd.underlying28 rfl HSY.out
  refine region_sch (fun w' => Below W.heap.size W w') [([0, 1, 3, 4], 2), ([], 5), ([], 6), ([7, 8, 9, 11, 12], 10), ([], 13), ([14, 15, 16, 17, 19], 18), ([], 20), ([21, 22], 23)] [24, 25] (by kernel_rfl) (by kernel_rfl) (by kernel_rfl) (fun _ _ d _ _ h => by cases d <;> exact h) (Below.refl _ _).drew ?_
  (try simp only [Act.put, List.setIfInBounds_toArray, List.set_cons_zero, List.set_cons_succ]); refine sch_seg ?_; simp only [pickOps, List.getElem?_toArray, List.getElem?_cons_zero, List.getElem?_cons_succ]; (repeat (first | go_big_quiet_skip | (go_big_quiet_want; first | (go_big_quiet_op; first | go_big_quiet_on | ((first | with_reducible refine ⟨_, fun _ _ => rfl, ?_⟩); go_big_quiet_on)) | (simp (contextual := true) [go_sem, HB0]; with_reducible refine ⟨_, fun _ _ => rfl, ?_⟩; go_big_quiet_on)))); refine wpQuiet_nil ?_
  go_wp2_with fail
  refine (vmNew_any fn arg W.drew).mono ?_
  rintro e w1 ⟨rfl, hb⟩
  have HB1 := Lib.hid (((Below.refl W.heap.size W).drew).trans (hb.mono ((Below.refl W.heap.size W).drew).size))
  clear hb
  go_wp2_with fail
  refine ⟨fun w' => Below W.heap.size W w', HB1.out, fun _ h => h, ?_⟩
  (try simp only [Act.put, List.setIfInBounds_toArray, List.set_cons_zero, List.set_cons_succ]); refine sch_seg ?_; simp only [pickOps, List.getElem?_toArray, List.getElem?_cons_zero, List.getElem?_cons_succ]; (repeat (first | go_big_quiet_skip | (go_big_quiet_want; first | (go_big_quiet_op; first | go_big_quiet_on | ((first | with_reducible refine ⟨_, fun _ _ => rfl, ?_⟩); go_big_quiet_on)) | (simp (contextual := true) [go_sem, HB0]; with_reducible refine ⟨_, fun _ _ => rfl, ?_⟩; go_big_quiet_on)))); refine wpQuiet_nil ?_
  go_wp2_with fail
  refine (rNew_any fn arg w1).mono ?_
  rintro e w2 ⟨rfl, hb⟩
  have HB2 := Lib.hid ((HB1.out).trans (hb.mono (HB1.out).size))
  clear hb
  go_wp2_with fail
  refine ⟨fun w' => Below W.heap.size W w', HB2.out, fun _ h => h, ?_⟩
  (try simp only [Act.put, List.setIfInBounds_toArray, List.set_cons_zero, List.set_cons_succ]); refine sch_seg ?_; simp only [pickOps, List.getElem?_toArray, List.getElem?_cons_zero, List.getElem?_cons_succ]; (repeat (first | go_big_quiet_skip | (go_big_quiet_want; first | (go_big_quiet_op; first | go_big_quiet_on | ((first | with_reducible refine ⟨_, fun _ _ => rfl, ?_⟩); go_big_quiet_on)) | (simp (contextual := true) [go_sem, HB0]; with_reducible refine ⟨_, fun _ _ => rfl, ?_⟩; go_big_quiet_on)))); refine wpQuiet_nil ?_
  go_wp2_with fail
  refine (rSame_any ⟨fn, 0, [arg, 0, 0, 0, 0, 0, 0, 0], [], false⟩ ⟨fn, 0, [arg, 0, 0, 0, 0, 0, 0, 0], [], false⟩ none none 0 0 w2 (nilT_ok _ ⟨fn, 0, [arg, 0, 0, 0, 0, 0, 0, 0], [], false⟩ _ _ rfl rfl (Nat.zero_le _)) (nilT_ok _ ⟨fn, 0, [arg, 0, 0, 0, 0, 0, 0, 0], [], false⟩ _ _ rfl rfl (Nat.zero_le _))).mono ?_
  rintro e w3 ⟨rfl, hb⟩
  have HB3 := Lib.hid ((HB2.out).trans (hb.mono (HB2.out).size))
  rw [sameT_self]
  clear hb
  go_wp2_with fail
  refine ⟨fun w' => Below W.heap.size W w', HB3.out, fun _ h => h, ?_⟩
  (try simp only [Act.put, List.setIfInBounds_toArray, List.set_cons_zero, List.set_cons_succ]); refine sch_seg ?_; simp only [pickOps, List.getElem?_toArray, List.getElem?_cons_zero, List.getElem?_cons_succ]; (repeat (first | (refine quiet_load_row (by rfl) 28 _ rfl w.heap.size rfl X LX ?_; simp only [Act.put, List.setIfInBounds_toArray, List.set_cons_zero, List.set_cons_succ]) | (refine quiet_load_row (by rfl) 28 _ rfl (w.heap.size + 1) rfl Y LY ?_; simp only [Act.put, List.setIfInBounds_toArray, List.set_cons_zero, List.set_cons_succ]) | go_big_quiet_skip | (go_big_quiet_want; first | (go_big_quiet_op; first | go_big_quiet_on | ((first | with_reducible refine ⟨_, fun _ _ => rfl, ?_⟩); go_big_quiet_on)) | (simp (contextual := true) [go_sem, HB0]; with_reducible refine ⟨_, fun _ _ => rfl, ?_⟩; go_big_quiet_on)))); refine wpQuiet_nil ?_
  go_wp2_with fail
  rw [← HX.out, ← HY.out]
  refine (vmSame_any t u A B c d w3 (HTT.out.step (HB0.out.trans (HB3.out.mono HB0.out.size))) (HTU.out.step (HB0.out.trans (HB3.out.mono HB0.out.size)))).mono ?_
  rintro e w4 ⟨rfl, hb⟩
  have HB4 := Lib.hid ((HB3.out).trans (hb.mono (HB3.out).size))
  clear hb
  go_wp2_with fail
  refine ⟨fun w' => Below W.heap.size W w', HB4.out, fun _ h => h, ?_⟩
  (try simp only [Act.put, List.setIfInBounds_toArray, List.set_cons_zero, List.set_cons_succ]); refine sch_seg ?_; simp only [pickOps, List.getElem?_toArray, List.getElem?_cons_zero, List.getElem?_cons_succ]; (repeat (first | go_big_quiet_skip | (go_big_quiet_want; first | (go_big_quiet_op; first | go_big_quiet_on | ((first | with_reducible refine ⟨_, fun _ _ => rfl, ?_⟩); go_big_quiet_on)) | (simp (contextual := true) [go_sem, HB0]; with_reducible refine ⟨_, fun _ _ => rfl, ?_⟩; go_big_quiet_on)))); refine wpQuiet_nil ?_
  go_wp2_with fail
  refine (rSame_any t u A B c d w4 (HTT.out.step (HB0.out.trans (HB4.out.mono HB0.out.size))) (HTU.out.step (HB0.out.trans (HB4.out.mono HB0.out.size)))).mono ?_
  rintro e w5 ⟨rfl, hb⟩
  have HB5 := Lib.hid ((HB4.out).trans (hb.mono (HB4.out).size))
  clear hb
  go_wp2_with fail
  refine ⟨fun w' => Below W.heap.size W w', HB5.out, fun _ h => h, ?_⟩
  (try simp only [Act.put, List.setIfInBounds_toArray, List.set_cons_zero, List.set_cons_succ]); refine sch_seg ?_; simp only [pickOps, List.getElem?_toArray, List.getElem?_cons_zero, List.getElem?_cons_succ]; (repeat (first | (refine quiet_load_row (by rfl) 28 _ rfl w.heap.size rfl X LX ?_; simp only [Act.put, List.setIfInBounds_toArray, List.set_cons_zero, List.set_cons_succ]) | (refine quiet_load_row (by rfl) 28 _ rfl (w.heap.size + 1) rfl Y LY ?_; simp only [Act.put, List.setIfInBounds_toArray, List.set_cons_zero, List.set_cons_succ]) | go_big_quiet_skip | (go_big_quiet_want; first | (go_big_quiet_op; first | go_big_quiet_on | ((first | with_reducible refine ⟨_, fun _ _ => rfl, ?_⟩); go_big_quiet_on)) | (simp (contextual := true) [go_sem, HB0]; with_reducible refine ⟨_, fun _ _ => rfl, ?_⟩; go_big_quiet_on)))); refine wpQuiet_nil ?_
  go_wp2_with fail
  rw [← HX.out]
  refine (vmClone_any t A c w5 (by omega) (HTT.out.step (HB0.out.trans (HB5.out.mono HB0.out.size)))).mono ?_
  rintro e w6 ⟨A6, c6, rfl, hO6, hb⟩
  have HB6 := Lib.hid (HB5.out.trans (hb.mono HB5.out.size))
  have HO6 := Lib.hid hO6
  clear hb hO6
  go_wp2_with fail
  refine ⟨fun w' => Below W.heap.size W w', HB6.out, fun _ h => h, ?_⟩
  (try simp only [Act.put, List.setIfInBounds_toArray, List.set_cons_zero, List.set_cons_succ]); refine sch_seg ?_; simp only [pickOps, List.getElem?_toArray, List.getElem?_cons_zero, List.getElem?_cons_succ]; (repeat (first | go_big_quiet_skip | (go_big_quiet_want; first | (go_big_quiet_op; first | go_big_quiet_on | ((first | with_reducible refine ⟨_, fun _ _ => rfl, ?_⟩); go_big_quiet_on)) | (simp (contextual := true) [go_sem, HB6]; with_reducible refine ⟨_, fun _ _ => rfl, ?_⟩; go_big_quiet_on)))); refine wpQuiet_nil ?_
  go_wp2_with fail
  have hcap : t.stack.length ≤ c6 := by
    rcases HO6.out.2 with ⟨_, h0⟩ | ⟨_, cap, _, hv, _, _, hnc, _⟩
    · omega
    · injection hv with _ _ h3
      omega
  have hmx : c6 ≤ maxLen := by
    rcases HO6.out.2 with ⟨hv, h0⟩ | ⟨_, cap, _, hv, _, _, _, hcm, _⟩
    · injection hv with _ _ h3
      rw [h3]
      unfold maxLen
      omega
    · injection hv with _ _ h3
      omega
  refine (rSame_any t t A6 A c6 c w6 ⟨HTT.out.regs, HO6.out.rowN, hcap, hmx⟩ (HTT.out.step (HB0.out.trans (HB6.out.mono HB0.out.size)))).mono ?_
  rintro e w7 ⟨rfl, hb⟩
  rw [sameT_self]
  have HB7 := Lib.hid (HB6.out.trans (hb.mono HB6.out.size))
  clear hb hcap hmx
  go_wp2_with fail
  refine ⟨fun w' => Below W.heap.size W w', HB7.out, fun _ h => h, ?_⟩
  (try simp only [Act.put, List.setIfInBounds_toArray, List.set_cons_zero, List.set_cons_succ]); refine sch_seg ?_; simp only [pickOps, List.getElem?_toArray, List.getElem?_cons_zero, List.getElem?_cons_succ]; (repeat (first | go_big_quiet_skip | (go_big_quiet_want; first | (go_big_quiet_op; first | go_big_quiet_on | ((first | with_reducible refine ⟨_, fun _ _ => rfl, ?_⟩); go_big_quiet_on)) | (simp (contextual := true) [go_sem, HB7]; with_reducible refine ⟨_, fun _ _ => rfl, ?_⟩; go_big_quiet_on)))); refine wpQuiet_nil ?_
  go_wp2_with fail
  refine (alive11 w7 ((HT.out.step HB0.out).step HB7.out)).mono ?_
  rintro e w8 ⟨rfl, hb⟩
  have HB8 := Lib.hid (HB7.out.trans (hb.mono HB7.out.size))
  clear hb
  go_wp2_with fail
  refine ⟨fun w' => Below W.heap.size W w', HB8.out, fun _ h => h, ?_⟩
  (try simp only [Act.put, List.setIfInBounds_toArray, List.set_cons_zero, List.set_cons_succ]); refine sch_end ?_; simp only [pickOps, List.getElem?_toArray, List.getElem?_cons_zero, List.getElem?_cons_succ]; (repeat (first | go_big_quiet_skip | (go_big_quiet_want; first | (go_big_quiet_op; first | go_big_quiet_on | ((first | with_reducible refine ⟨_, fun _ _ => rfl, ?_⟩); go_big_quiet_on)) | (simp (contextual := true) [go_sem, HB8]; with_reducible refine ⟨_, fun _ _ => rfl, ?_⟩; go_big_quiet_on)))); refine wpQuiet_nil ?_
  go_wp2_with fail
  go_ret
  exact ⟨rfl, HB0.out.trans (HB8.out.mono HB0.out.size)⟩
end Go.Proofs.YtoacnphgkgklcaaDoor

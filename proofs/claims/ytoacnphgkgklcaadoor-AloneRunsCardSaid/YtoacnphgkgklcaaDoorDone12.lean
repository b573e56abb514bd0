/-
  Chapter 12: what an instruction does beside: contract of (*world).done. Condition: the world lies in one block, the numbers told in a row of the call's own.
-/
import Derived.Test.YtoacnphgkgklcaaDoorAns12
namespace Go.Proofs.YtoacnphgkgklcaaDoor
open Go.RowKit
/-- What an instruction does to the world. -/
def doneA (d : Wd) (op n : Int) : Wd :=
  let d := { d with steps := d.steps + 1 }
  if op = 15 then { d with emits := d.emits ++ [n] } else if op = 17 then { d with stopped := true } else if op = 18 then { d with stopped := false }
  else if op = 12 then (if d.stopped = true then d else { d with stuck := !d.token, token := false }) else d
section
variable {d : Wd} (E : Option Addr) (ce : Nat) (B : Option Addr) (cb : Nat) (h : d.th.regs.length = 8)
theorem wdArr_set1 (x : Int) : (wdArr d E ce B cb).setIfInBounds 1 (.int .i64 x) = wdArr { d with steps := x } E ce B cb := by
  unfold wdArr
  rw [List.setIfInBounds_toArray]
  rfl
theorem wdArr_set0 (es : List Int) (E' : Option Addr) (ce' : Nat) : (wdArr d E ce B cb).setIfInBounds 0 (.slice E' es.length ce') = wdArr { d with emits := es } E' ce' B cb := by
  unfold wdArr
  rw [List.setIfInBounds_toArray]
  rfl
include h
theorem wdArr_stuck (x : Bool) : (wdArr d E ce B cb).setIfInBounds 14 (.bool x) = wdArr { d with stuck := x } E ce B cb := by
  have hs := thArr_size B cb h
  unfold wdArr
  rw [List.setIfInBounds_toArray]
  congr 1
  rw [List.set_append_right _ _ (by simp [hs])]
  simp [hs]
theorem wdArr_stopped (x : Bool) : (wdArr d E ce B cb).setIfInBounds 15 (.bool x) = wdArr { d with stopped := x } E ce B cb := by
  have hs := thArr_size B cb h
  unfold wdArr
  rw [List.setIfInBounds_toArray]
  congr 1
  rw [List.set_append_right _ _ (by simp [hs])]
  simp [hs]
end
theorem Tryd.infoI2 : (Tryd.prog.info? 2).map (fun i => (i.zero, i.size, i.bytes)) = some (some (.int .i64 0), 1, 8) := by kernel_rfl
theorem oneint2 (w : World) (x : Int) (t : TypeId) : ∀ j u, [Value.int .i64 x][j]? = some u → (w.alloc (.cells #[.int .i64 x] t)).cell? ((⟨w.heap.size, 0, none⟩ : Addr).add j) = some u := by
  intro j u hu
  match j, hu with
  | 0, hu => simp at hu; rw [← hu]; simp [go_sem]
/-- What holds behind. -/
structure DoneOut (w w' : World) (g base : Nat) (d' : Wd) (E E' : Option Addr) (ce' : Nat) (B : Option Addr) (cb : Nat) : Prop where
  blk : Blk w' g 71 (wdArr d' E' ce' B cb)
  own : Own w' base 2 1 E' d'.emits.length ce' (ints d'.emits)
  fresh : ob E' = ob E ∨ ∃ k, ob E' = some k ∧ w.heap.size ≤ k
  keep : ∀ k, k < w.heap.size → k ≠ g → some k ≠ ob E → w'.heap[k]? = w.heap[k]?
  bel : Below base w w'
set_option maxHeartbeats 4000000 in
set_option maxRecDepth 100000 in
theorem done_any (d : Wd) (E B : Option Addr) (ce cb g base : Nat) (op a b c i n : Int) (w : World) (hb : Blk w g 71 (wdArr d E ce B cb)) (h : d.th.regs.length = 8) (hbg : base ≤ g) (ho : Own w base 2 1 E d.emits.length ce (ints d.emits)) (hne : ob E = none ∨ ob E ≠ some g) (hs0 : 0 ≤ d.steps) (hs1 : d.steps ≤ 70000) (hel : d.emits.length ≤ 70000) :
    Calls Tryd.prog 37 #[.pointer (some ⟨g, 0, none⟩), .agg (insArr ⟨op, a, b, c, i⟩), .int .i64 n] w fun e w' => (∃ v, e = .returned v) ∧ ∃ E' ce', DoneOut w w' g base (doneA d op n) E E' ce' B cb := by
  have hgl : g < w.heap.size := hb.lt
  have hq1 := (hb.cell 1).trans (wdArr_1 E ce B cb)
  have hf1 := hb.frozen 1
  have HH := Lib.hid h
  have HB := Lib.hid hb
  have HO := Lib.hid ho
  have HNE := Lib.hid hne
  have q0 := (hb.cell 0).trans (wdArr_0 E ce B cb)
  have q14 := (hb.cell 14).trans (wdArr_end E ce B cb h 0)
  have q15 := (hb.cell 15).trans (wdArr_end E ce B cb h 1)
  have q16 := (hb.cell 16).trans (wdArr_end E ce B cb h 2)
  simp only [List.getElem?_cons_zero, List.getElem?_cons_succ] at q14 q15 q16
  have f0 := hb.frozen 0
  have f14 := hb.frozen 14
  have f15 := hb.frozen 15
  have f16 := hb.frozen 16
  have HS := Lib.hid (hb.set_ 1 (.int .i64 (d.steps + 1)))
  rw [wdArr_set1] at HS
  have HO1 := Lib.hid (ho.setCell ⟨g, 1, none⟩ (.int .i64 (d.steps + 1)) hne)
  have HB1 := Lib.hid ((Below.refl base w).setCell (p := ⟨g, 1, none⟩) hbg (.int .i64 (d.steps + 1)))
  have hbz : base ≤ w.heap.size := by omega
  have fin : ∀ (w2 : World) (d' : Wd) (o : Obj), doneA d op n = d' → Blk w2 g 71 (wdArr d' E ce B cb) → Own w2 base 2 1 E d.emits.length ce (ints d.emits) → d'.emits = d.emits → (∀ k, k ≠ g → w2.heap[k]? = w.heap[k]?) → w2.heap.size = w.heap.size → Below base w w2 → ∃ E' ce', DoneOut w (w2.alloc o) g base (doneA d op n) E E' ce' B cb := by
    intro w2 d' o h1 h2 h3 h4 h5 h6 h7
    rw [h1]
    refine ⟨E, ce, h2.alloc o, by rw [h4]; exact h3.alloc o, .inl rfl, fun k hk hkg _ => ?_, h7.alloc (by omega) o⟩
    exact (Below.heap_alloc w2 o k (by omega)).trans (h5 k hkg)
  have FIN := Lib.hid fin
  have hfar : ∀ (w2 : World) (j : Nat) (v : Value), (∀ k, k ≠ g → w2.heap[k]? = w.heap[k]?) → ∀ k, k ≠ g → (w2.setCell ⟨g, j, none⟩ v).heap[k]? = w.heap[k]? := fun w2 j v h0 k hk => (Below.heap_setCell w2 ⟨g, j, none⟩ v k hk).trans (h0 k hk)
  have HFAR := Lib.hid hfar
  have hsz : ∀ (w2 : World) (j : Nat) (v : Value), (w2.setCell ⟨g, j, none⟩ v).heap.size = w2.heap.size := fun w2 j v => by simp [World.setCell]
  have HSIZ := Lib.hid hsz
  unfold insArr
  clear hb h ho hne fin hfar hsz
  by_cases h15 : op = 15
  · have HD := Lib.hid (show doneA d op n = { d with steps := d.steps + 1, emits := d.emits ++ [n] } by unfold doneA; simp only; rw [if_pos h15])
    subst h15
    obtain ⟨i0, hi, hz0, hz1, hz2⟩ := info_parts Tryd.infoI2
    have HI := Lib.hid hi
    have HZ0 := Lib.hid hz0
    have HZ1 := Lib.hid hz1
    have HZ2 := Lib.hid hz2
    have hW1 : ∃ W1 : World, Hid (W1 = (w.setCell ⟨g, 1, none⟩ (.int .i64 (d.steps + 1))).alloc (.cells #[.int .i64 15, .int .i64 a, .int .i64 b, .int .i64 c, .int .i64 i] 32)) := ⟨_, rfl⟩
    obtain ⟨W1, HW1⟩ := hW1
    have hs1' : W1.heap.size = w.heap.size + 1 := by rw [HW1.out, World.size_alloc, HSIZ.out]
    have HS1 := Lib.hid hs1'
    have htw := oneint2 W1 n 2
    rw [hs1'] at htw
    have HTW := Lib.hid htw
    have HOW := Lib.hid (show Own (W1.alloc (.cells #[.int .i64 n] 2)) base 2 1 E d.emits.length ce (ints d.emits) by rw [HW1.out]; exact (HO1.out.alloc _).alloc _)
    have HBW := Lib.hid (show Blk (W1.alloc (.cells #[.int .i64 n] 2)) g 71 (wdArr { d with steps := d.steps + 1 } E ce B cb) by rw [HW1.out]; exact (HS.out.alloc _).alloc _)
    have HBE := Lib.hid (show Below base w (W1.alloc (.cells #[.int .i64 n] 2)) by rw [HW1.out]; exact (HB1.out.alloc (by rw [HSIZ.out]; omega) _).alloc (by rw [World.size_alloc, HSIZ.out]; omega) _)
    have HKW := Lib.hid (show ∀ k, k < w.heap.size → k ≠ g → (W1.alloc (.cells #[.int .i64 n] 2)).heap[k]? = w.heap[k]? from fun k hk hkg => by
      refine (Below.heap_alloc W1 _ k (by have := HS1.out; omega)).trans ?_
      rw [HW1.out]
      exact (Below.heap_alloc _ _ k (by rw [HSIZ.out]; omega)).trans (HFAR.out w 1 _ (fun _ _ => rfl) k hkg))
    have c1 : Hid (d.emits.length + 1 ≤ maxLen) := by unfold maxLen; show _ ≤ _; omega
    clear hi hz0 hz1 hz2 hs1' htw
    go_enter Tryd.func37, Tryd.ntmps37
    go_wp2_with (at_builtin; (try rw [← HW1.out]); go_must (refine wpList_append_1 _ rfl _ _ 42 rfl base 2 i0 _ 1 8 Tryd.underlying42 HI.out HZ0.out HZ1.out HZ2.out rfl (by decide) _ _ _ _ rfl HOW.out ⟨w.heap.size + 1, 0, none⟩ 1 [.int .i64 n] rfl rfl HTW.out (by simp [Value.oneCell']) c1.out (by omega) (by rw [World.size_alloc, HS1.out]; omega) ?_); intro E' ce' w5 hown1 hgrow1 hat1; have hB5 := HBW.out.grown hgrow1 (fun e => by rcases HNE.out with h | h; (rw [h] at e; cases e); exact h e.symm); have u0 := (hB5.cell 0).trans (wdArr_0 E ce B cb); have v0 := hB5.frozen 0)
    go_end0
    refine ⟨⟨_, rfl⟩, E', ce', ?_⟩
    rw [HD.out]
    have hneE : ob E' = none ∨ ob E' ≠ some g := by
      rcases hat1 with h | h
      · rw [h]; exact HNE.out
      · right
        intro h2
        rw [h] at h2
        injection h2 with h2
        rw [World.size_alloc, HS1.out] at h2
        omega
    have hlen : (d.emits ++ [n]).length = d.emits.length + 1 := by simp
    refine ⟨?_, ?_, ?_, ?_, ?_⟩
    · have := hB5.set_ 0 (.slice E' (d.emits.length + 1) ce')
      rw [← hlen, wdArr_set0 (d := { d with steps := d.steps + 1 }), hlen] at this
      exact this
    · show Own _ base 2 1 E' (d.emits ++ [n]).length ce' (ints (d.emits ++ [n]))
      rw [hlen, show ints (d.emits ++ [n]) = ints d.emits ++ [.int .i64 n] by simp [ints]]
      exact hown1.setCell ⟨g, 0, none⟩ _ hneE
    · rcases hat1 with h | h
      · exact .inl h
      · exact .inr ⟨_, h, by rw [World.size_alloc, HS1.out]; omega⟩
    · intro k hk hkg hkE
      exact (Below.heap_setCell w5 ⟨g, 0, none⟩ _ k hkg).trans ((hgrow1.block k (by rw [World.size_alloc, HS1.out]; omega) hkE).trans (HKW.out k hk hkg))
    · exact (HBE.out.grown hgrow1 (Nat.le_trans hbz HBE.out.size) (fun k hk => (HO.out.lt k hk).1)).setCell (p := ⟨g, 0, none⟩) hbg _
  by_cases h17 : op = 17
  · have HD := Lib.hid (show doneA d op n = { d with steps := d.steps + 1, stopped := true } by unfold doneA; simp only; rw [if_neg h15, if_pos h17])
    have HX := Lib.hid (HS.out.set_ 15 (.bool true))
    rw [wdArr_stopped (d := { d with steps := d.steps + 1 }) E ce B cb HH.out] at HX
    subst h17
    clear h15
    go_enter Tryd.func37, Tryd.ntmps37
    go_wp2_with fail
    go_end0
    exact ⟨⟨_, rfl⟩, FIN.out _ _ _ HD.out HX.out (HO1.out.setCell ⟨g, 15, none⟩ _ HNE.out) rfl (HFAR.out _ _ _ (HFAR.out _ _ _ (fun _ _ => rfl))) (by rw [HSIZ.out, HSIZ.out]) (HB1.out.setCell (p := ⟨g, 15, none⟩) hbg _)⟩
  by_cases h18 : op = 18
  · have HD := Lib.hid (show doneA d op n = { d with steps := d.steps + 1, stopped := false } by unfold doneA; simp only; rw [if_neg h15, if_neg h17, if_pos h18])
    have HX := Lib.hid (HS.out.set_ 15 (.bool false))
    rw [wdArr_stopped (d := { d with steps := d.steps + 1 }) E ce B cb HH.out] at HX
    subst h18
    clear h15 h17
    go_enter Tryd.func37, Tryd.ntmps37
    go_wp2_with fail
    go_end0
    exact ⟨⟨_, rfl⟩, FIN.out _ _ _ HD.out HX.out (HO1.out.setCell ⟨g, 15, none⟩ _ HNE.out) rfl (HFAR.out _ _ _ (HFAR.out _ _ _ (fun _ _ => rfl))) (by rw [HSIZ.out, HSIZ.out]) (HB1.out.setCell (p := ⟨g, 15, none⟩) hbg _)⟩
  by_cases h12 : op = 12
  · by_cases hst : d.stopped = true
    · have HD := Lib.hid (show doneA d op n = { d with steps := d.steps + 1 } by unfold doneA; simp only; rw [if_neg h15, if_neg h17, if_neg h18, if_pos h12, if_pos hst])
      subst h12
      rw [hst] at q15
      clear h15 h17 h18 hst
      go_enter Tryd.func37, Tryd.ntmps37
      go_wp2_with fail
      go_end0
      exact ⟨⟨_, rfl⟩, FIN.out _ _ _ HD.out HS.out HO1.out rfl (HFAR.out _ _ _ (fun _ _ => rfl)) (by rw [HSIZ.out]) HB1.out⟩
    · have HD := Lib.hid (show doneA d op n = { d with steps := d.steps + 1, stuck := !d.token, token := false } by unfold doneA; simp only; rw [if_neg h15, if_neg h17, if_neg h18, if_pos h12, if_neg hst])
      have hsf : d.stopped = false := by simpa using hst
      have HX := Lib.hid (HS.out.set_ 14 (.bool (!d.token)))
      rw [wdArr_stuck (d := { d with steps := d.steps + 1 }) E ce B cb HH.out] at HX
      replace HX := Lib.hid (HX.out.set_ 16 (.bool false))
      rw [wdArr_token (d := { d with steps := d.steps + 1, stuck := !d.token }) E ce B cb HH.out] at HX
      subst h12
      rw [hsf] at q15
      clear h15 h17 h18 hst hsf
      go_enter Tryd.func37, Tryd.ntmps37
      go_wp2_with fail
      go_end0
      exact ⟨⟨_, rfl⟩, FIN.out _ _ _ HD.out HX.out ((HO1.out.setCell ⟨g, 14, none⟩ _ HNE.out).setCell ⟨g, 16, none⟩ _ HNE.out) rfl (HFAR.out _ _ _ (HFAR.out _ _ _ (HFAR.out _ _ _ (fun _ _ => rfl)))) (by rw [HSIZ.out, HSIZ.out, HSIZ.out]) ((HB1.out.setCell (p := ⟨g, 14, none⟩) hbg _).setCell (p := ⟨g, 16, none⟩) hbg _)⟩
  have HD := Lib.hid (show doneA d op n = { d with steps := d.steps + 1 } by unfold doneA; simp only; rw [if_neg h15, if_neg h17, if_neg h18, if_neg h12])
  have d15 : (op == 15) = false := by simpa using h15
  have d17 : (op == 17) = false := by simpa using h17
  have d18 : (op == 18) = false := by simpa using h18
  have d12 : (op == 12) = false := by simpa using h12
  clear h15 h17 h18 h12
  go_enter Tryd.func37, Tryd.ntmps37
  go_wp2_with fail
  go_end0
  exact ⟨⟨_, rfl⟩, FIN.out _ _ _ HD.out HS.out HO1.out rfl (HFAR.out _ _ _ (fun _ _ => rfl)) (by rw [HSIZ.out]) HB1.out⟩
end Go.Proofs.YtoacnphgkgklcaaDoor

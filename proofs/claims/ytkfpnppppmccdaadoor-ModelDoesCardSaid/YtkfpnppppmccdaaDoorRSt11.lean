/-
  Chapter 11: the reference's Step: contract. Conditions: program and thread lie in memory; the thread fits.
-/
import Derived.Test.YtkfpnppppmccdaaDoorMDo
namespace Go.Proofs.YtkfpnppppmccdaaDoor
open Go.RowKit
theorem rbelow_any (x y : Int) (w : World) : Calls Tryd.prog 83 #[.int .i64 x, .int .i64 y] w fun e w' => e = .returned (.int .i64 (lessV x y)) ∧ w = w' := by
  unfold lessV
  by_cases h : x < y
  · rw [if_pos h]
    go_enter Tryd.func83, Tryd.ntmps83
    go_wp2_with fail
    go_ret
    exact ⟨rfl, rfl⟩
  · rw [if_neg h]
    have h' : y ≤ x := by omega
    go_enter Tryd.func83, Tryd.ntmps83
    go_wp2_with fail
    go_ret
    exact ⟨rfl, rfl⟩
theorem rbelow_b (x y : Int) (w : World) : Calls Tryd.prog 83 #[.int .i64 x, .int .i64 y] w fun e w' => e = .returned (.int .i64 (lessV x y)) ∧ Below w.heap.size w w' :=
  (rbelow_any x y w).mono fun _ _ ⟨h1, h2⟩ => ⟨h1, h2 ▸ Below.refl _ _⟩
set_option maxHeartbeats 8000000 in
set_option maxRecDepth 100000 in
theorem rStep_run (t : Th) (A B : Option Addr) (c d : Nat) (fs : List Fn) (ans : Int) (w : World) (hm0 : fs.length ≤ maxLen) (hf : FnsOk w w.heap.size A fs) (ht : ThOk w w.heap.size t B d) (hfit : fitsT fs t = true) (hdn : t.done = false) :
    Calls Tryd.prog 61 #[.agg #[.slice A fs.length c], .agg (thArr t B d), .int .i64 ans] w (DoOut w (stepT fs t ans)) := by
  obtain ⟨hrun, k, m, ek, em, hk, hm, ei⟩ := fits_place hfit hdn
  have hst : t.stack.length ≤ 16 := stack_le hfit hdn
  have HR := Lib.hid (run_ins hrun hk hm)
  have HSTEP := Lib.hid (show stepT fs t ans = ((stepI fs[k].code[m] t ans).1, (stepI fs[k].code[m] t ans).2, true) by unfold stepT; rw [hdn, ei]; rfl)
  have hpc : m < 64 := Nat.lt_of_lt_of_le hm (fn_ok ((run_fn hrun).2.2 k hk)).2.1
  have hx0 := (thArr_0 (t := t) B d)
  have hx1 := (thArr_1 (t := t) B d)
  have hx10 := (thArr_10 (t := t) B d ht.regs)
  rw [ek] at hx0
  rw [em] at hx1
  have HPC := Lib.hid em
  have HFN := Lib.hid ek
  have HT := Lib.hid ht
  have HREG := Lib.hid (fun (x : Nat) (hx : x < 8) => thArr_reg B d ht.regs x hx)
  have HSZ := Lib.hid (show (Tryd.prog.info? 56).map (·.size) = some (thArr t B d).size by rw [thArr_size B d ht.regs]; exact Tryd.infoTh)
  have HSX := Lib.hid (thArr_size B d ht.regs)
  have HONE := Lib.hid (thArr_one t B d)
  have HAT := Lib.hid (fun (w' : World) (hb : Below w.heap.size w w') => rAt_any t A B c d fs w' hm0 (hf.step hb) (ht.step hb) hfit)
  generalize hX : thArr t B d = X at *
  have HX := Lib.hid hX
  have hb0 := below3 w (.cells #[.slice A fs.length c] 24) (.cells X 56) (.cells #[.int .i64 0, .int .i64 0, .int .i64 0, .int .i64 0, .int .i64 0, .int .i64 0, .int .i64 0, .int .i64 0, .int .i64 0, .int .i64 0, .slice none 0 0, .bool false] 56)
  have hW : ∃ W : World, Hid (W = ((w.alloc (.cells #[.slice A fs.length c] 24)).alloc (.cells X 56)).alloc (.cells #[.int .i64 0, .int .i64 0, .int .i64 0, .int .i64 0, .int .i64 0, .int .i64 0, .int .i64 0, .int .i64 0, .int .i64 0, .int .i64 0, .slice none 0 0, .bool false] 56)) := ⟨_, rfl⟩
  obtain ⟨W, HW⟩ := hW
  have hBT : Blk W (w.heap.size + 1) 56 X := by rw [HW.out]; exact Blk.alloc (heap_alloc2_new w _ _) _
  have hBR : Blk W (w.heap.size + 2) 56 #[.int .i64 0, .int .i64 0, .int .i64 0, .int .i64 0, .int .i64 0, .int .i64 0, .int .i64 0, .int .i64 0, .int .i64 0, .int .i64 0, .slice none 0 0, .bool false] := by rw [HW.out]; exact blk3 w _ _ _ _
  have hWs : W.heap.size = w.heap.size + 3 := by rw [HW.out]; simp
  rw [← HW.out] at hb0
  have HB0 := Lib.hid hb0
  have HBT := Lib.hid hBT
  have HBR := Lib.hid hBR
  have HWS := Lib.hid hWs
  have hdf : (!t.done) = true := by rw [hdn]; rfl
  have hin : (if t.done = true then zeroIns else insAt fs t.fn t.pc) = fs[k].code[m] := by rw [hdn, ei]; rfl
  have HDF := Lib.hid hdf
  have HIN := Lib.hid hin
  generalize hI : fs[k].code[m] = ins at *
  obtain ⟨op, ia, ib, ic, inn⟩ := ins
  obtain ⟨a, hia⟩ := Int.eq_ofNat_of_zero_le HR.out.a0
  obtain ⟨b', hib⟩ := Int.eq_ofNat_of_zero_le HR.out.b0
  obtain ⟨c', hic⟩ := Int.eq_ofNat_of_zero_le HR.out.c0
  simp only at hia hib hic
  subst hia hib hic
  have ha8 : a < 8 := by have := HR.out.a8; simp only at this; omega
  have hb8 : b' < 8 := by have := HR.out.b8; simp only at this; omega
  have hc8 : c' < 8 := by have := HR.out.c8; simp only at this; omega
  clear hfit hf ht hdn ek em ei hb0 hBT hBR hX hWs hrun hdf hin hI hm0
  go_enter Tryd.func61, Tryd.ntmps61
  go_wp2_with (refine wpList_load_rowW (by rfl) 56 _ rfl (w.heap.size + 1) rfl 56 X (0, 0) _ (by rw [← HW.out]; exact HBT.out) Tryd.underlying56 rfl HSZ.out ?_)
  rw [← HW.out]
  refine (HAT.out W HB0.out).mono ?_
  rintro e w1 ⟨rfl, hb1⟩
  rw [HDF.out, HIN.out]
  have HB1 := Lib.hid (HB0.out.trans (hb1.mono HB0.out.size))
  have HBT1 := Lib.hid (HBT.out.below hb1 HBT.out.lt)
  have HBR1 := Lib.hid (HBR.out.below hb1 HBR.out.lt)
  have hz1 : w.heap.size + 3 ≤ w1.heap.size := by have := hb1.size; have := HWS.out; omega
  unfold insArr
  obtain ⟨i0, hi, hz0, hz1', hz2⟩ := info_parts Tryd.infoFr
  have HI := Lib.hid hi
  have HZ0 := Lib.hid hz0
  have HZ1 := Lib.hid hz1'
  have HZ2 := Lib.hid hz2
  have hkey : ∀ (W4 : World) (gI gD gO : Nat), Hid (W4 = (((w1.alloc (.cells #[.int .i64 op, .int .i64 (a : Int), .int .i64 (b' : Int), .int .i64 (c' : Int), .int .i64 inn] 64)).alloc (.cells #[.int .i64 0, .int .i64 0, .int .i64 0, .int .i64 0, .int .i64 0, .int .i64 0, .int .i64 0, .int .i64 0, .int .i64 0, .int .i64 0, .slice none 0 0, .bool true] 56)).alloc (.cells #[.int .i64 0, .int .i64 0, .int .i64 0, .int .i64 0, .int .i64 0, .int .i64 0, .int .i64 0, .int .i64 0, .int .i64 0, .int .i64 0, .slice none 0 0, .bool false] 56)).setRow (w1.heap.size + 2) X) → Hid (gI = w1.heap.size) → Hid (gD = w1.heap.size + 1) → Hid (gO = w1.heap.size + 1 + 1) →
      (Blk W4 gI 64 #[.int .i64 op, .int .i64 (a : Int), .int .i64 (b' : Int), .int .i64 (c' : Int), .int .i64 inn] ∧ Blk W4 gD 56 (thArr doneT none 0) ∧ Blk W4 gO 56 X ∧ Blk W4 (w.heap.size + 1) 56 X ∧ Blk W4 (w.heap.size + 2) 56 #[.int .i64 0, .int .i64 0, .int .i64 0, .int .i64 0, .int .i64 0, .int .i64 0, .int .i64 0, .int .i64 0, .int .i64 0, .int .i64 0, .slice none 0 0, .bool false] ∧ Below w.heap.size w W4) ∧ w.heap.size + 2 < gI ∧ gI < gD ∧ gD < gO ∧ gO < W4.heap.size := by
    intro W4 gI gD gO h4 hI hD hO
    rw [h4.out, hI.out, hD.out, hO.out]
    refine ⟨⟨?_, ?_, (blk3 w1 _ _ _ _).setRow _, ?_, ?_, ?_⟩, ?_⟩
    · exact (((Blk.new w1 _ _).alloc _).alloc _).farRow (by omega) _
    · exact (Blk.alloc (heap_alloc2_new w1 _ _) _).farRow (by omega) _
    · exact (((HBT1.out.alloc _).alloc _).alloc _).farRow (by omega) _
    · exact (((HBR1.out.alloc _).alloc _).alloc _).farRow (by omega) _
    · exact below_setRow (((HB1.out.alloc (by omega) _).alloc (by simp; omega) _).alloc (by simp; omega) _) (by omega) (by simp; omega) _
    · rw [setRow_size]; simp; omega
  have hkey5 : ∀ (W4 w5 : World) (gI gD gO : Nat) (A5 : Option Addr) (c5 : Nat), Blk W4 gI 64 #[.int .i64 op, .int .i64 (a : Int), .int .i64 (b' : Int), .int .i64 (c' : Int), .int .i64 inn] → Blk W4 gD 56 (thArr doneT none 0) → Blk W4 gO 56 X → Blk W4 (w.heap.size + 1) 56 X → Blk W4 (w.heap.size + 2) 56 #[.int .i64 0, .int .i64 0, .int .i64 0, .int .i64 0, .int .i64 0, .int .i64 0, .int .i64 0, .int .i64 0, .int .i64 0, .int .i64 0, .slice none 0 0, .bool false] → Below w.heap.size w W4 → w.heap.size + 2 < gI → gI < gD → gD < gO → gO < W4.heap.size → Own w5 (w.heap.size + 3) 105 2 A5 t.stack.length c5 (t.stack.flatMap frVals) → (W4.alloc (.cells #[] 105)).grownBy w5 (some W4.heap.size) → (ob A5 = some W4.heap.size ∨ ob A5 = some (W4.alloc (.cells #[] 105)).heap.size) →
      (Blk w5 gI 64 #[.int .i64 op, .int .i64 (a : Int), .int .i64 (b' : Int), .int .i64 (c' : Int), .int .i64 inn] ∧ Blk w5 gD 56 (thArr doneT none 0) ∧ Blk w5 gO 56 X ∧ Blk w5 (w.heap.size + 1) 56 X ∧ Blk w5 (w.heap.size + 2) 56 #[.int .i64 0, .int .i64 0, .int .i64 0, .int .i64 0, .int .i64 0, .int .i64 0, .int .i64 0, .int .i64 0, .int .i64 0, .int .i64 0, .slice none 0 0, .bool false] ∧ Below w.heap.size w w5) ∧ ThMem (w5.setCell ⟨gO, 10, none⟩ (.slice A5 t.stack.length c5)) (w.heap.size + 3) gO t A5 c5 ∧ some gI ≠ ob A5 := by
    intro W4 w5 gI gD gO A5 c5 hI hD hO hT hR hB h1 h2 h3 h4 hown hgrow hat
    have hne : ob A5 = none ∨ ob A5 ≠ some gO := by
      right
      intro h
      rcases hat with h' | h' <;> (rw [h] at h'; injection h' with h'; (try simp at h'); omega)
    have hO5 : Blk w5 gO 56 X := (hO.alloc _).grown hgrow (by intro h; injection h with h; omega)
    refine ⟨⟨(hI.alloc _).grown hgrow (by intro h; injection h with h; omega), (hD.alloc _).grown hgrow (by intro h; injection h with h; omega), hO5, (hT.alloc _).grown hgrow (by intro h; injection h with h; omega), (hR.alloc _).grown hgrow (by intro h; injection h with h; omega), (hB.alloc (by omega) _).grown hgrow (by simp; omega) (fun k hk => by injection hk with hk; omega)⟩, ⟨?_, ?_, hne, HT.out.regs, by omega⟩, ?_⟩
    · have := hO5.set_ 10 (.slice A5 t.stack.length c5)
      rw [← HX.out, thArr_set10 B A5 d c5 HT.out.regs] at this
      exact this
    · exact hown.setCell ⟨gO, 10, none⟩ _ hne
    · intro h
      rcases hat with h' | h' <;> (rw [← h] at h'; injection h' with h'; (try simp at h'); omega)
  have KEY := Lib.hid hkey
  have KEY5 := Lib.hid hkey5
  have HROW := Lib.hid (fun (w' : World) (hb : Below w.heap.size w w') => (show Row (w'.alloc (.cells #[] 105)) w'.heap.size B (t.stack.flatMap frVals) from (HT.out.row.below (hb.alloc hb.size _)).more hb.size))
  clear hb1 hi hz0 hz1' hz2 hkey hkey5
  go_wp2_with (first | (refine wpList_load_rowW (by rfl) 56 _ rfl (w.heap.size + 1) rfl 56 X (0, 0) _ (show Blk _ _ _ _ from (HBT1.out.alloc _).alloc _) Tryd.underlying56 rfl HSZ.out ?_) | (refine wpList_store_row rfl 56 _ _ rfl (w1.heap.size + 2) X rfl rfl 56 _ (blk3 w1 _ _ _ _) HSZ.out (by rw [HSX.out]; rfl) HONE.out ?_; have hW4 : ∃ W4 : World, Hid (W4 = (((w1.alloc (.cells #[.int .i64 op, .int .i64 (a : Int), .int .i64 (b' : Int), .int .i64 (c' : Int), .int .i64 inn] 64)).alloc (.cells #[.int .i64 0, .int .i64 0, .int .i64 0, .int .i64 0, .int .i64 0, .int .i64 0, .int .i64 0, .int .i64 0, .int .i64 0, .int .i64 0, .slice none 0 0, .bool true] 56)).alloc (.cells #[.int .i64 0, .int .i64 0, .int .i64 0, .int .i64 0, .int .i64 0, .int .i64 0, .int .i64 0, .int .i64 0, .int .i64 0, .int .i64 0, .slice none 0 0, .bool false] 56)).setRow (w1.heap.size + 2) X) := ⟨_, rfl⟩; obtain ⟨W4, HW4⟩ := hW4; have hG : ∃ gI gD gO : Nat, Hid (gI = w1.heap.size) ∧ Hid (gD = w1.heap.size + 1) ∧ Hid (gO = w1.heap.size + 1 + 1) := ⟨_, _, _, rfl, rfl, rfl⟩; obtain ⟨gI, gD, gO, HgI, HgD, HgO⟩ := hG; rw [← HW4.out, ← HgO.out, ← HgD.out, ← HgI.out]; obtain ⟨⟨hI4, hD4, hO4, hT4, hR4, hB4⟩, o1, o2, o3, o4⟩ := KEY.out W4 gI gD gO HW4 HgI HgD HgO; have HI4 := Lib.hid hI4; have HD4 := Lib.hid hD4; have HO4 := Lib.hid hO4; have HT4 := Lib.hid hT4; have HR4 := Lib.hid hR4; have HB4 := Lib.hid hB4; have q10 := (hT4.cell 10).trans hx10; have hz4 : w.heap.size + 1 < W4.heap.size := hT4.lt; clear hI4 hD4 hO4 hT4 hR4 hB4 HgI HgD HgO) | (at_builtin; go_must (refine wpList_append_row _ rfl _ _ 54 rfl (w.heap.size + 3) 105 i0 _ 2 16 Tryd.underlying54 HI.out HZ0.out HZ1.out HZ2.out rfl (by decide) _ 0 0 [] rfl (World.ownsRow_made W4 #[] 0 (by omega) (Nat.zero_le _) (by simp)) B t.stack.length d W4.heap.size (t.stack.flatMap frVals) rfl (flat_length frVals_len _) (HROW.out W4 HB4.out) (frVals_one _) (by unfold maxLen; omega) (by omega) (by rw [World.size_alloc]; omega) ?_); intro A5 c5 w5 hown hgrow hat; simp only [Nat.zero_add, List.nil_append] at hown ⊢; obtain ⟨⟨hI5, hD5, hO5, hT5, hR5, hB5⟩, hM5, hNI⟩ := KEY5.out W4 w5 gI gD gO A5 c5 HI4.out HD4.out HO4.out HT4.out HR4.out HB4.out o1 o2 o3 o4 hown hgrow hat; have HI5 := Lib.hid hI5; have HD5 := Lib.hid hD5; have HT5 := Lib.hid hT5; have HR5 := Lib.hid hR5; have HB5 := Lib.hid hB5; have HM5 := Lib.hid hM5; have HNI := Lib.hid hNI; have p10 := (hO5.cell 10).trans hx10; have f10 := hO5.frozen 10; have p1 := (hO5.cell 1).trans hx1; have f1 := hO5.frozen 1; have t1 := (hT5.cell 1).trans hx1; have n1 : w.heap.size + 1 ≠ gO := by omega))
  clear hown hgrow hat hI5 hD5 hO5 hT5 hR5 hB5 hM5 hNI
  have hW6 : ∃ W6 : World, Hid (W6 = (w5.setCell ⟨gO, 10, none⟩ (.slice A5 t.stack.length c5)).setCell ⟨gO, 1, none⟩ (.int .i64 ((m : Int) + 1))) := ⟨_, rfl⟩
  obtain ⟨W6, HW6⟩ := hW6
  have hM6 : ThMem W6 (w.heap.size + 3) gO { t with pc := (m : Int) + 1 } A5 c5 := by rw [HW6.out]; exact HM5.out.set 1 (.int .i64 ((m : Int) + 1)) (thArr_set1 _ A5 c5 _) rfl rfl HM5.out.regs
  have hI6 : Blk W6 gI 64 #[.int .i64 op, .int .i64 (a : Int), .int .i64 (b' : Int), .int .i64 (c' : Int), .int .i64 inn] := by rw [HW6.out]; exact (HI5.out.far (p := ⟨gO, 10, none⟩) (by show gI ≠ gO; omega) _).far (p := ⟨gO, 1, none⟩) (by show gI ≠ gO; omega) _
  have hD6 : Blk W6 gD 56 (thArr doneT none 0) := by rw [HW6.out]; exact (HD5.out.far (p := ⟨gO, 10, none⟩) (by show gD ≠ gO; omega) _).far (p := ⟨gO, 1, none⟩) (by show gD ≠ gO; omega) _
  have hT6 : Blk W6 (w.heap.size + 1) 56 X := by rw [HW6.out]; exact (HT5.out.far (p := ⟨gO, 10, none⟩) n1 _).far (p := ⟨gO, 1, none⟩) n1 _
  have hR6 : Blk W6 (w.heap.size + 2) 56 #[.int .i64 0, .int .i64 0, .int .i64 0, .int .i64 0, .int .i64 0, .int .i64 0, .int .i64 0, .int .i64 0, .int .i64 0, .int .i64 0, .slice none 0 0, .bool false] := by rw [HW6.out]; exact (HR5.out.far (p := ⟨gO, 10, none⟩) (by show _ ≠ gO; omega) _).far (p := ⟨gO, 1, none⟩) (by show _ ≠ gO; omega) _
  have hB6 : Below w.heap.size w W6 := by rw [HW6.out]; exact (HB5.out.setCell (p := ⟨gO, 10, none⟩) (by show _ ≤ gO; omega) _).setCell (p := ⟨gO, 1, none⟩) (by show _ ≤ gO; omega) _
  rw [← HW6.out]
  have G2 : ∀ w', Below W6.heap.size W6 w' → w'.cell? ⟨gI, 2, none⟩ = some (.int .i64 b') := fun w' h => (h.cell (p := ⟨gI, 2, none⟩) hI6.lt).trans (hI6.cell 2)
  have G3 : ∀ w', Below W6.heap.size W6 w' → w'.cell? ⟨gI, 3, none⟩ = some (.int .i64 c') := fun w' h => (h.cell (p := ⟨gI, 3, none⟩) hI6.lt).trans (hI6.cell 3)
  have R1 : ∀ w', Below W6.heap.size W6 w' → w'.cell? ⟨w.heap.size + 1, 2 + b', none⟩ = some (.int .i64 (t.regs.getD b' 0)) := fun w' h => (h.cell (p := ⟨w.heap.size + 1, 2 + b', none⟩) hT6.lt).trans ((hT6.cell (2 + b')).trans (HREG.out b' hb8))
  have R2 : ∀ w', Below W6.heap.size W6 w' → w'.cell? ⟨w.heap.size + 1, 2 + c', none⟩ = some (.int .i64 (t.regs.getD c' 0)) := fun w' h => (h.cell (p := ⟨w.heap.size + 1, 2 + c', none⟩) hT6.lt).trans ((hT6.cell (2 + c')).trans (HREG.out c' hc8))
  refine region_below W6 W6.heap.size (by kernel_rfl) (by kernel_rfl) (Below.refl _ _) ?_
  repeat (first | go_big_quiet_skip | (go_big_quiet_want; first | (go_big_quiet_op; first | go_big_quiet_on | ((first | with_reducible refine ⟨_, fun _ _ => rfl, ?_⟩); go_big_quiet_on)) | (simp (contextual := true) [go_sem, G2, G3, R1, R2]; with_reducible refine ⟨_, fun _ _ => rfl, ?_⟩; go_big_quiet_on)))
  refine wpQuiet_nil ?_
  intro w7 hw7
  clear G2 G3 R1 R2 q10 p10 f10 p1 f1 t1
  have HM7 := Lib.hid (hM6.step hw7)
  have HI7 := Lib.hid (hI6.below hw7 hI6.lt)
  have HD7 := Lib.hid (hD6.below hw7 hD6.lt)
  have HT7 := Lib.hid (hT6.below hw7 hT6.lt)
  have HR7 := Lib.hid (hR6.below hw7 hR6.lt)
  have HB7 := Lib.hid (hB6.trans (hw7.mono hB6.size))
  clear hM6 hI6 hD6 hT6 hR6 hB6 hw7
  have g0 := HI7.out.cell 0
  have g1 := HI7.out.cell 1
  have g4 := HI7.out.cell 4
  simp only [List.getElem?_toArray, List.getElem?_cons_zero, List.getElem?_cons_succ] at g0 g1 g4
  have qa := (HM7.out.blk.cell (2 + a)).trans (thArr_reg A5 c5 HM7.out.regs a ha8)
  have fa := HM7.out.blk.frozen (2 + a)
  have q1 := (HM7.out.blk.cell 1).trans (thArr_1 A5 c5)
  have f1 := HM7.out.blk.frozen 1
  have HOP := Lib.hid (show ¬ (op < 0 ∨ 24 ≤ op) by have := HR.out.op0; have := HR.out.op24; simp only at *; omega)
  have hkind : (op = 1 ∨ op = 2 ∨ op = 3 ∨ op = 4 ∨ op = 5 ∨ op = 6 ∨ op = 7 ∨ op = 8 ∨ op = 9 ∨ op = 14 ∨ op = 15) ∨ ¬ (op = 1 ∨ op = 2 ∨ op = 3 ∨ op = 4 ∨ op = 5 ∨ op = 6 ∨ op = 7 ∨ op = 8 ∨ op = 9 ∨ op = 14 ∨ op = 15) := Classical.em _
  rcases hkind with hkind | hkind
  · rcases hkind with rfl | rfl | rfl | rfl | rfl | rfl | rfl | rfl | rfl | rfl | rfl
    · have HM8 := Lib.hid (HM7.out.set (2 + a) (.int .i64 (inn)) (thArr_setreg _ A5 c5 a ha8 HM7.out.regs _) rfl rfl (by simpa using HM7.out.regs))
      have HR8 := Lib.hid (HR7.out.far (p := ⟨gO, 2 + a, none⟩) (by show _ ≠ gO; omega) (.int .i64 (inn)))
      have HB8 := Lib.hid (HB7.out.setCell (p := ⟨gO, 2 + a, none⟩) (by show _ ≤ gO; omega) (.int .i64 (inn)))
      have HE := Lib.hid (stepI_of (i := ⟨1, a, b', c', inn⟩) (t := t) (ans := ans) (rs := t.regs.set a inn) (n := 0) rfl rfl HPC.out)
      go_wp2_with fail
      refine (rasks_in 1 _ HOP.out).mono ?_
      rintro e w9 ⟨rfl, rfl⟩
      rw [show opAsks 1 = false by kernel_rfl]
      have HSZ8 := Lib.hid (show (Tryd.prog.info? 56).map (·.size) = some (thArr { t with pc := (m : Int) + 1, regs := t.regs.set a (inn) } A5 c5).size by rw [thArr_size A5 c5 HM8.out.regs]; exact Tryd.infoTh)
      have HGO := Lib.hid o4
      clear qa fa q1 f1 g0 g1 g4
      go_wp2_with (first | (refine wpList_load_rowW (by rfl) 56 _ rfl gO rfl 56 (thArr { t with pc := (m : Int) + 1, regs := t.regs.set a (inn) } A5 c5) (0, 0) _ HM8.out.blk Tryd.underlying56 rfl HSZ8.out ?_) | (refine wpList_store_row rfl 56 _ _ rfl (w.heap.size + 2) (thArr { t with pc := (m : Int) + 1, regs := t.regs.set a (inn) } A5 c5) rfl rfl 56 _ HR8.out HSZ8.out (by rw [thArr_size A5 c5 HM8.out.regs]; rfl) (thArr_one _ A5 c5) ?_))
      refine bodyPost_ret (results_cell3 Tryd.results61 _ _ (w.heap.size + 2) 56 (thArr { t with pc := (m : Int) + 1, regs := t.regs.set a (inn) } A5 c5) (0, 0) _ rfl (HR8.out.setRow _) Tryd.underlying56 rfl HSZ8.out) rfl ⟨A5, c5, ?_, ?_, (fun k hk => by have := (HM8.out.own.lt k hk).1; omega), ?_⟩
      · rw [HSTEP.out, HE.out]; rfl
      · rw [HSTEP.out, HE.out]
        have hk := HM8.out.ok
        exact ⟨hk.regs, by rw [setRow_size]; exact (own_setRow HM8.out.own (g := w.heap.size + 2) (by omega) _).rowN.more (by rw [setRow_size]; exact Nat.le_refl _), hk.len, hk.cap⟩
      · exact below_setRow HB8.out (by omega) HB8.out.size _
    · have HM8 := Lib.hid (HM7.out.set (2 + a) (.int .i64 (wrap64 (t.regs.getD b' 0 + t.regs.getD c' 0))) (thArr_setreg _ A5 c5 a ha8 HM7.out.regs _) rfl rfl (by simpa using HM7.out.regs))
      have HR8 := Lib.hid (HR7.out.far (p := ⟨gO, 2 + a, none⟩) (by show _ ≠ gO; omega) (.int .i64 (wrap64 (t.regs.getD b' 0 + t.regs.getD c' 0))))
      have HB8 := Lib.hid (HB7.out.setCell (p := ⟨gO, 2 + a, none⟩) (by show _ ≤ gO; omega) (.int .i64 (wrap64 (t.regs.getD b' 0 + t.regs.getD c' 0))))
      have HE := Lib.hid (stepI_of (i := ⟨2, a, b', c', inn⟩) (t := t) (ans := ans) (rs := t.regs.set a (wrap64 (t.regs.getD b' 0 + t.regs.getD c' 0))) (n := 0) rfl rfl HPC.out)
      go_wp2_with fail
      refine (rasks_in 2 _ HOP.out).mono ?_
      rintro e w9 ⟨rfl, rfl⟩
      rw [show opAsks 2 = false by kernel_rfl]
      have HSZ8 := Lib.hid (show (Tryd.prog.info? 56).map (·.size) = some (thArr { t with pc := (m : Int) + 1, regs := t.regs.set a (wrap64 (t.regs.getD b' 0 + t.regs.getD c' 0)) } A5 c5).size by rw [thArr_size A5 c5 HM8.out.regs]; exact Tryd.infoTh)
      have HGO := Lib.hid o4
      clear qa fa q1 f1 g0 g1 g4
      go_wp2_with (first | (refine wpList_load_rowW (by rfl) 56 _ rfl gO rfl 56 (thArr { t with pc := (m : Int) + 1, regs := t.regs.set a (wrap64 (t.regs.getD b' 0 + t.regs.getD c' 0)) } A5 c5) (0, 0) _ HM8.out.blk Tryd.underlying56 rfl HSZ8.out ?_) | (refine wpList_store_row rfl 56 _ _ rfl (w.heap.size + 2) (thArr { t with pc := (m : Int) + 1, regs := t.regs.set a (wrap64 (t.regs.getD b' 0 + t.regs.getD c' 0)) } A5 c5) rfl rfl 56 _ HR8.out HSZ8.out (by rw [thArr_size A5 c5 HM8.out.regs]; rfl) (thArr_one _ A5 c5) ?_))
      refine bodyPost_ret (results_cell3 Tryd.results61 _ _ (w.heap.size + 2) 56 (thArr { t with pc := (m : Int) + 1, regs := t.regs.set a (wrap64 (t.regs.getD b' 0 + t.regs.getD c' 0)) } A5 c5) (0, 0) _ rfl (HR8.out.setRow _) Tryd.underlying56 rfl HSZ8.out) rfl ⟨A5, c5, ?_, ?_, (fun k hk => by have := (HM8.out.own.lt k hk).1; omega), ?_⟩
      · rw [HSTEP.out, HE.out]; rfl
      · rw [HSTEP.out, HE.out]
        have hk := HM8.out.ok
        exact ⟨hk.regs, by rw [setRow_size]; exact (own_setRow HM8.out.own (g := w.heap.size + 2) (by omega) _).rowN.more (by rw [setRow_size]; exact Nat.le_refl _), hk.len, hk.cap⟩
      · exact below_setRow HB8.out (by omega) HB8.out.size _
    · have HM8 := Lib.hid (HM7.out.set (2 + a) (.int .i64 (wrap64 (t.regs.getD b' 0 - t.regs.getD c' 0))) (thArr_setreg _ A5 c5 a ha8 HM7.out.regs _) rfl rfl (by simpa using HM7.out.regs))
      have HR8 := Lib.hid (HR7.out.far (p := ⟨gO, 2 + a, none⟩) (by show _ ≠ gO; omega) (.int .i64 (wrap64 (t.regs.getD b' 0 - t.regs.getD c' 0))))
      have HB8 := Lib.hid (HB7.out.setCell (p := ⟨gO, 2 + a, none⟩) (by show _ ≤ gO; omega) (.int .i64 (wrap64 (t.regs.getD b' 0 - t.regs.getD c' 0))))
      have HE := Lib.hid (stepI_of (i := ⟨3, a, b', c', inn⟩) (t := t) (ans := ans) (rs := t.regs.set a (wrap64 (t.regs.getD b' 0 - t.regs.getD c' 0))) (n := 0) rfl rfl HPC.out)
      go_wp2_with fail
      refine (rasks_in 3 _ HOP.out).mono ?_
      rintro e w9 ⟨rfl, rfl⟩
      rw [show opAsks 3 = false by kernel_rfl]
      have HSZ8 := Lib.hid (show (Tryd.prog.info? 56).map (·.size) = some (thArr { t with pc := (m : Int) + 1, regs := t.regs.set a (wrap64 (t.regs.getD b' 0 - t.regs.getD c' 0)) } A5 c5).size by rw [thArr_size A5 c5 HM8.out.regs]; exact Tryd.infoTh)
      have HGO := Lib.hid o4
      clear qa fa q1 f1 g0 g1 g4
      go_wp2_with (first | (refine wpList_load_rowW (by rfl) 56 _ rfl gO rfl 56 (thArr { t with pc := (m : Int) + 1, regs := t.regs.set a (wrap64 (t.regs.getD b' 0 - t.regs.getD c' 0)) } A5 c5) (0, 0) _ HM8.out.blk Tryd.underlying56 rfl HSZ8.out ?_) | (refine wpList_store_row rfl 56 _ _ rfl (w.heap.size + 2) (thArr { t with pc := (m : Int) + 1, regs := t.regs.set a (wrap64 (t.regs.getD b' 0 - t.regs.getD c' 0)) } A5 c5) rfl rfl 56 _ HR8.out HSZ8.out (by rw [thArr_size A5 c5 HM8.out.regs]; rfl) (thArr_one _ A5 c5) ?_))
      refine bodyPost_ret (results_cell3 Tryd.results61 _ _ (w.heap.size + 2) 56 (thArr { t with pc := (m : Int) + 1, regs := t.regs.set a (wrap64 (t.regs.getD b' 0 - t.regs.getD c' 0)) } A5 c5) (0, 0) _ rfl (HR8.out.setRow _) Tryd.underlying56 rfl HSZ8.out) rfl ⟨A5, c5, ?_, ?_, (fun k hk => by have := (HM8.out.own.lt k hk).1; omega), ?_⟩
      · rw [HSTEP.out, HE.out]; rfl
      · rw [HSTEP.out, HE.out]
        have hk := HM8.out.ok
        exact ⟨hk.regs, by rw [setRow_size]; exact (own_setRow HM8.out.own (g := w.heap.size + 2) (by omega) _).rowN.more (by rw [setRow_size]; exact Nat.le_refl _), hk.len, hk.cap⟩
      · exact below_setRow HB8.out (by omega) HB8.out.size _
    · have HM8 := Lib.hid (HM7.out.set (2 + a) (.int .i64 (wrap64 (t.regs.getD b' 0 * t.regs.getD c' 0))) (thArr_setreg _ A5 c5 a ha8 HM7.out.regs _) rfl rfl (by simpa using HM7.out.regs))
      have HR8 := Lib.hid (HR7.out.far (p := ⟨gO, 2 + a, none⟩) (by show _ ≠ gO; omega) (.int .i64 (wrap64 (t.regs.getD b' 0 * t.regs.getD c' 0))))
      have HB8 := Lib.hid (HB7.out.setCell (p := ⟨gO, 2 + a, none⟩) (by show _ ≤ gO; omega) (.int .i64 (wrap64 (t.regs.getD b' 0 * t.regs.getD c' 0))))
      have HE := Lib.hid (stepI_of (i := ⟨4, a, b', c', inn⟩) (t := t) (ans := ans) (rs := t.regs.set a (wrap64 (t.regs.getD b' 0 * t.regs.getD c' 0))) (n := 0) rfl rfl HPC.out)
      go_wp2_with fail
      refine (rasks_in 4 _ HOP.out).mono ?_
      rintro e w9 ⟨rfl, rfl⟩
      rw [show opAsks 4 = false by kernel_rfl]
      have HSZ8 := Lib.hid (show (Tryd.prog.info? 56).map (·.size) = some (thArr { t with pc := (m : Int) + 1, regs := t.regs.set a (wrap64 (t.regs.getD b' 0 * t.regs.getD c' 0)) } A5 c5).size by rw [thArr_size A5 c5 HM8.out.regs]; exact Tryd.infoTh)
      have HGO := Lib.hid o4
      clear qa fa q1 f1 g0 g1 g4
      go_wp2_with (first | (refine wpList_load_rowW (by rfl) 56 _ rfl gO rfl 56 (thArr { t with pc := (m : Int) + 1, regs := t.regs.set a (wrap64 (t.regs.getD b' 0 * t.regs.getD c' 0)) } A5 c5) (0, 0) _ HM8.out.blk Tryd.underlying56 rfl HSZ8.out ?_) | (refine wpList_store_row rfl 56 _ _ rfl (w.heap.size + 2) (thArr { t with pc := (m : Int) + 1, regs := t.regs.set a (wrap64 (t.regs.getD b' 0 * t.regs.getD c' 0)) } A5 c5) rfl rfl 56 _ HR8.out HSZ8.out (by rw [thArr_size A5 c5 HM8.out.regs]; rfl) (thArr_one _ A5 c5) ?_))
      refine bodyPost_ret (results_cell3 Tryd.results61 _ _ (w.heap.size + 2) 56 (thArr { t with pc := (m : Int) + 1, regs := t.regs.set a (wrap64 (t.regs.getD b' 0 * t.regs.getD c' 0)) } A5 c5) (0, 0) _ rfl (HR8.out.setRow _) Tryd.underlying56 rfl HSZ8.out) rfl ⟨A5, c5, ?_, ?_, (fun k hk => by have := (HM8.out.own.lt k hk).1; omega), ?_⟩
      · rw [HSTEP.out, HE.out]; rfl
      · rw [HSTEP.out, HE.out]
        have hk := HM8.out.ok
        exact ⟨hk.regs, by rw [setRow_size]; exact (own_setRow HM8.out.own (g := w.heap.size + 2) (by omega) _).rowN.more (by rw [setRow_size]; exact Nat.le_refl _), hk.len, hk.cap⟩
      · exact below_setRow HB8.out (by omega) HB8.out.size _
    · have G1 : ∀ w', Below w7.heap.size w7 w' → w'.cell? ⟨gI, 1, none⟩ = some (.int .i64 (a : Int)) := fun w' h => (h.cell (p := ⟨gI, 1, none⟩) HI7.out.lt).trans (HI7.out.cell 1)
      clear qa fa q1 f1
      go_wp2_with fail
      refine region_schE (fun w' => Below w7.heap.size w7 w') [([0, 1, 2, 3, 5], 4)] [6] 7 (by kernel_rfl) (by kernel_rfl) (by kernel_rfl) (fun _ _ d _ _ h => by cases d <;> exact h) (Below.refl _ _).drew ?_
      (try simp only [Act.put, List.setIfInBounds_toArray, List.set_cons_zero, List.set_cons_succ]); refine schE_seg ?_; simp only [pickOps, List.getElem?_toArray, List.getElem?_cons_zero, List.getElem?_cons_succ]; (repeat (first | go_big_quiet_skip | (go_big_quiet_want; first | (go_big_quiet_op; first | go_big_quiet_on | ((first | with_reducible refine ⟨_, fun _ _ => rfl, ?_⟩); go_big_quiet_on)) | (simp (contextual := true) [go_sem, G1]; with_reducible refine ⟨_, fun _ _ => rfl, ?_⟩; go_big_quiet_on)))); refine wpQuiet_nil ?_
      go_wp2_with fail
      refine (rbelow_b (t.regs.getD b' 0) (t.regs.getD c' 0) _).mono ?_
      rintro e w8 ⟨rfl, hb8'⟩
      have hb8 := (Below.refl w7.heap.size w7).drew.trans hb8'
      replace HM7 := Lib.hid (HM7.out.step hb8)
      have HI8 := Lib.hid (HI7.out.below hb8 HI7.out.lt)
      have HGG := Lib.hid hb8
      replace HR7 := Lib.hid (HR7.out.below hb8 HR7.out.lt)
      replace HB7 := Lib.hid (HB7.out.trans (hb8.mono HB7.out.size))
      clear hb8 hb8' g0 g1 g4 G1
      go_wp2_with fail
      refine ⟨fun w' => Below w7.heap.size w7 w', HGG.out, fun _ h => h, ?_⟩
      (try simp only [Act.put, List.setIfInBounds_toArray, List.set_cons_zero, List.set_cons_succ]); refine schE_last ?_; simp only [pickOps, List.getElem?_toArray, List.getElem?_cons_zero, List.getElem?_cons_succ]; (repeat (first | go_big_quiet_skip | (go_big_quiet_want; first | (go_big_quiet_op; first | go_big_quiet_on | ((first | with_reducible refine ⟨_, fun _ _ => rfl, ?_⟩); go_big_quiet_on)) | (simp (contextual := true) [go_sem, HGG]; with_reducible refine ⟨_, fun _ _ => rfl, ?_⟩; go_big_quiet_on)))); refine wpQuiet_nil ?_
      have g0 := HI8.out.cell 0
      simp only [List.getElem?_toArray, List.getElem?_cons_zero] at g0
      have qa := (HM7.out.blk.cell (2 + a)).trans (thArr_reg A5 c5 HM7.out.regs a ha8)
      have fa := HM7.out.blk.frozen (2 + a)
      have HM8 := Lib.hid (HM7.out.set (2 + a) (.int .i64 (lessV (t.regs.getD b' 0) (t.regs.getD c' 0))) (thArr_setreg _ A5 c5 a ha8 HM7.out.regs _) rfl rfl (by simpa using HM7.out.regs))
      have HR8 := Lib.hid (HR7.out.far (p := ⟨gO, 2 + a, none⟩) (by show _ ≠ gO; omega) (.int .i64 (lessV (t.regs.getD b' 0) (t.regs.getD c' 0))))
      have HB8 := Lib.hid (HB7.out.setCell (p := ⟨gO, 2 + a, none⟩) (by show _ ≤ gO; omega) (.int .i64 (lessV (t.regs.getD b' 0) (t.regs.getD c' 0))))
      have HE := Lib.hid (stepI_of (i := ⟨5, a, b', c', inn⟩) (t := t) (ans := ans) (rs := t.regs.set a (lessV (t.regs.getD b' 0) (t.regs.getD c' 0))) (n := 0) rfl rfl HPC.out)
      go_wp2_with fail
      refine (rasks_in 5 _ HOP.out).mono ?_
      rintro e w9 ⟨rfl, rfl⟩
      rw [show opAsks 5 = false by kernel_rfl]
      have HSZ8 := Lib.hid (show (Tryd.prog.info? 56).map (·.size) = some (thArr { t with pc := (m : Int) + 1, regs := t.regs.set a (lessV (t.regs.getD b' 0) (t.regs.getD c' 0)) } A5 c5).size by rw [thArr_size A5 c5 HM8.out.regs]; exact Tryd.infoTh)
      have HGO := Lib.hid o4
      clear qa fa g0
      go_wp2_with (first | (refine wpList_load_rowW (by rfl) 56 _ rfl gO rfl 56 (thArr { t with pc := (m : Int) + 1, regs := t.regs.set a (lessV (t.regs.getD b' 0) (t.regs.getD c' 0)) } A5 c5) (0, 0) _ HM8.out.blk Tryd.underlying56 rfl HSZ8.out ?_) | (refine wpList_store_row rfl 56 _ _ rfl (w.heap.size + 2) (thArr { t with pc := (m : Int) + 1, regs := t.regs.set a (lessV (t.regs.getD b' 0) (t.regs.getD c' 0)) } A5 c5) rfl rfl 56 _ HR8.out HSZ8.out (by rw [thArr_size A5 c5 HM8.out.regs]; rfl) (thArr_one _ A5 c5) ?_))
      refine bodyPost_ret (results_cell3 Tryd.results61 _ _ (w.heap.size + 2) 56 (thArr { t with pc := (m : Int) + 1, regs := t.regs.set a (lessV (t.regs.getD b' 0) (t.regs.getD c' 0)) } A5 c5) (0, 0) _ rfl (HR8.out.setRow _) Tryd.underlying56 rfl HSZ8.out) rfl ⟨A5, c5, ?_, ?_, (fun k hk => by have := (HM8.out.own.lt k hk).1; omega), ?_⟩
      · rw [HSTEP.out, HE.out]; rfl
      · rw [HSTEP.out, HE.out]
        have hk := HM8.out.ok
        exact ⟨hk.regs, by rw [setRow_size]; exact (own_setRow HM8.out.own (g := w.heap.size + 2) (by omega) _).rowN.more (by rw [setRow_size]; exact Nat.le_refl _), hk.len, hk.cap⟩
      · exact below_setRow HB8.out (by omega) HB8.out.size _
    · have HM8 := Lib.hid (HM7.out.set 1 (.int .i64 inn) (thArr_set1 _ A5 c5 _) rfl rfl HM7.out.regs)
      have HR8 := Lib.hid (HR7.out.far (p := ⟨gO, 1, none⟩) (by show _ ≠ gO; omega) (.int .i64 inn))
      have HB8 := Lib.hid (HB7.out.setCell (p := ⟨gO, 1, none⟩) (by show _ ≤ gO; omega) (.int .i64 inn))
      have HE := Lib.hid (stepI_of (i := ⟨6, a, b', c', inn⟩) (t := t) (ans := ans) (rs := t.regs) (n := 0) rfl rfl HPC.out)
      go_wp2_with fail
      refine (rasks_in 6 _ HOP.out).mono ?_
      rintro e w9 ⟨rfl, rfl⟩
      rw [show opAsks 6 = false by kernel_rfl]
      have HSZ8 := Lib.hid (show (Tryd.prog.info? 56).map (·.size) = some (thArr { t with pc := inn } A5 c5).size by rw [thArr_size A5 c5 HM8.out.regs]; exact Tryd.infoTh)
      have HGO := Lib.hid o4
      clear qa fa q1 f1 g0 g1 g4
      go_wp2_with (first | (refine wpList_load_rowW (by rfl) 56 _ rfl gO rfl 56 (thArr { t with pc := inn } A5 c5) (0, 0) _ HM8.out.blk Tryd.underlying56 rfl HSZ8.out ?_) | (refine wpList_store_row rfl 56 _ _ rfl (w.heap.size + 2) (thArr { t with pc := inn } A5 c5) rfl rfl 56 _ HR8.out HSZ8.out (by rw [thArr_size A5 c5 HM8.out.regs]; rfl) (thArr_one _ A5 c5) ?_))
      refine bodyPost_ret (results_cell3 Tryd.results61 _ _ (w.heap.size + 2) 56 (thArr { t with pc := inn } A5 c5) (0, 0) _ rfl (HR8.out.setRow _) Tryd.underlying56 rfl HSZ8.out) rfl ⟨A5, c5, ?_, ?_, (fun k hk => by have := (HM8.out.own.lt k hk).1; omega), ?_⟩
      · rw [HSTEP.out, HE.out]; rfl
      · rw [HSTEP.out, HE.out]
        have hk := HM8.out.ok
        exact ⟨hk.regs, by rw [setRow_size]; exact (own_setRow HM8.out.own (g := w.heap.size + 2) (by omega) _).rowN.more (by rw [setRow_size]; exact Nat.le_refl _), hk.len, hk.cap⟩
      · exact below_setRow HB8.out (by omega) HB8.out.size _
    · have r0 := (HT7.out.cell (2 + a)).trans (HREG.out a ha8)
      generalize hrr : t.regs.getD a 0 = r at *
      by_cases hr : r = 0
      · subst hr
        have HE := Lib.hid (show stepI ⟨7, a, b', c', inn⟩ t ans = ({ t with pc := (m : Int) + 1 }, 0) from (stepI_of (i := ⟨7, a, b', c', inn⟩) (t := t) (ans := ans) (rs := t.regs) (n := 0) rfl rfl HPC.out).trans (by unfold outOf moveT regOf; simp only [Int.toNat_natCast]; rw [hrr]; rfl))
        have HM8 := HM7
        have HR8 := HR7
        have HB8 := HB7
        clear hrr
        go_wp2_with fail
        refine (rasks_in 7 _ HOP.out).mono ?_
        rintro e w9 ⟨rfl, rfl⟩
        rw [show opAsks 7 = false by kernel_rfl]
        have HSZ8 := Lib.hid (show (Tryd.prog.info? 56).map (·.size) = some (thArr { t with pc := (m : Int) + 1 } A5 c5).size by rw [thArr_size A5 c5 HM8.out.regs]; exact Tryd.infoTh)
        have HGO := Lib.hid o4
        clear qa fa q1 f1 g0 g1 g4 r0
        go_wp2_with (first | (refine wpList_load_rowW (by rfl) 56 _ rfl gO rfl 56 (thArr { t with pc := (m : Int) + 1 } A5 c5) (0, 0) _ HM8.out.blk Tryd.underlying56 rfl HSZ8.out ?_) | (refine wpList_store_row rfl 56 _ _ rfl (w.heap.size + 2) (thArr { t with pc := (m : Int) + 1 } A5 c5) rfl rfl 56 _ HR8.out HSZ8.out (by rw [thArr_size A5 c5 HM8.out.regs]; rfl) (thArr_one _ A5 c5) ?_))
        refine bodyPost_ret (results_cell3 Tryd.results61 _ _ (w.heap.size + 2) 56 (thArr { t with pc := (m : Int) + 1 } A5 c5) (0, 0) _ rfl (HR8.out.setRow _) Tryd.underlying56 rfl HSZ8.out) rfl ⟨A5, c5, ?_, ?_, (fun k hk => by have := (HM8.out.own.lt k hk).1; omega), ?_⟩
        · rw [HSTEP.out, HE.out]; rfl
        · rw [HSTEP.out, HE.out]
          have hk := HM8.out.ok
          exact ⟨hk.regs, by rw [setRow_size]; exact (own_setRow HM8.out.own (g := w.heap.size + 2) (by omega) _).rowN.more (by rw [setRow_size]; exact Nat.le_refl _), hk.len, hk.cap⟩
        · exact below_setRow HB8.out (by omega) HB8.out.size _
      · have hr' : (r == 0) = false := by simpa using hr
        have HE := Lib.hid (show stepI ⟨7, a, b', c', inn⟩ t ans = ({ t with pc := inn }, 0) from (stepI_of (i := ⟨7, a, b', c', inn⟩) (t := t) (ans := ans) (rs := t.regs) (n := 0) rfl rfl HPC.out).trans (by unfold outOf moveT regOf; simp only [Int.toNat_natCast]; rw [hrr, if_pos trivial, if_neg hr]))
        have HM8 := Lib.hid (HM7.out.set 1 (.int .i64 inn) (thArr_set1 _ A5 c5 _) rfl rfl HM7.out.regs)
        have HR8 := Lib.hid (HR7.out.far (p := ⟨gO, 1, none⟩) (by show _ ≠ gO; omega) (.int .i64 inn))
        have HB8 := Lib.hid (HB7.out.setCell (p := ⟨gO, 1, none⟩) (by show _ ≤ gO; omega) (.int .i64 inn))
        clear hrr hr
        go_wp2_with fail
        refine (rasks_in 7 _ HOP.out).mono ?_
        rintro e w9 ⟨rfl, rfl⟩
        rw [show opAsks 7 = false by kernel_rfl]
        have HSZ8 := Lib.hid (show (Tryd.prog.info? 56).map (·.size) = some (thArr { t with pc := inn } A5 c5).size by rw [thArr_size A5 c5 HM8.out.regs]; exact Tryd.infoTh)
        have HGO := Lib.hid o4
        clear qa fa q1 f1 g0 g1 g4 r0 hr'
        go_wp2_with (first | (refine wpList_load_rowW (by rfl) 56 _ rfl gO rfl 56 (thArr { t with pc := inn } A5 c5) (0, 0) _ HM8.out.blk Tryd.underlying56 rfl HSZ8.out ?_) | (refine wpList_store_row rfl 56 _ _ rfl (w.heap.size + 2) (thArr { t with pc := inn } A5 c5) rfl rfl 56 _ HR8.out HSZ8.out (by rw [thArr_size A5 c5 HM8.out.regs]; rfl) (thArr_one _ A5 c5) ?_))
        refine bodyPost_ret (results_cell3 Tryd.results61 _ _ (w.heap.size + 2) 56 (thArr { t with pc := inn } A5 c5) (0, 0) _ rfl (HR8.out.setRow _) Tryd.underlying56 rfl HSZ8.out) rfl ⟨A5, c5, ?_, ?_, (fun k hk => by have := (HM8.out.own.lt k hk).1; omega), ?_⟩
        · rw [HSTEP.out, HE.out]; rfl
        · rw [HSTEP.out, HE.out]
          have hk := HM8.out.ok
          exact ⟨hk.regs, by rw [setRow_size]; exact (own_setRow HM8.out.own (g := w.heap.size + 2) (by omega) _).rowN.more (by rw [setRow_size]; exact Nat.le_refl _), hk.len, hk.cap⟩
        · exact below_setRow HB8.out (by omega) HB8.out.size _
    · by_cases hl : t.stack.length = 16
      · have hd16 : decide ((16 : Int) ≤ t.stack.length) = true := by simp; omega
        have tt := (HT7.out.cell 10).trans hx10
        have HE := Lib.hid (show stepI ⟨8, a, b', c', inn⟩ t ans = (doneT, 0) from (stepI_of (i := ⟨8, a, b', c', inn⟩) (t := t) (ans := ans) (rs := t.regs) (n := 0) rfl rfl HPC.out).trans (by unfold outOf moveT; rw [if_neg (show ¬ (8 : Int) = 7 by decide), if_neg (show ¬ (8 : Int) = 6 by decide), if_pos rfl, if_pos hl]))
        have HSZD := Lib.hid (show (Tryd.prog.info? 56).map (·.size) = some (thArr doneT none 0).size from Tryd.infoTh)
        clear qa fa q1 f1 g1 g4 hl
        go_wp2_with (first | (refine wpList_load_rowW (by rfl) 56 _ rfl gD rfl 56 (thArr doneT none 0) (0, 0) _ HD7.out Tryd.underlying56 rfl HSZD.out ?_) | (refine wpList_store_row rfl 56 _ _ rfl (w.heap.size + 2) (thArr doneT none 0) rfl rfl 56 _ HR7.out HSZD.out rfl (thArr_one doneT none 0) ?_))
        refine bodyPost_ret (results_cell3 Tryd.results61 _ _ (w.heap.size + 2) 56 (thArr doneT none 0) (0, 0) _ rfl (HR7.out.setRow _) Tryd.underlying56 rfl HSZD.out) rfl ⟨none, 0, ?_, ?_, (fun _ h => by cases h), ?_⟩
        · rw [HSTEP.out, HE.out]; rfl
        · rw [HSTEP.out, HE.out]; exact ⟨rfl, Row.nil, Nat.le_refl _, Nat.zero_le _⟩
        · exact below_setRow HB7.out (by omega) HB7.out.size _
      · have hd16 : decide ((16 : Int) ≤ t.stack.length) = false := by simp; omega
        have tt := (HT7.out.cell 10).trans hx10
        have t0 := (HT7.out.cell 0).trans hx0
        have t1 := (HT7.out.cell 1).trans hx1
        have q10 := (HM7.out.blk.cell 10).trans (thArr_10 A5 c5 HM7.out.regs)
        have HE := Lib.hid (show stepI ⟨8, a, b', c', inn⟩ t ans = ({ t with fn := inn, pc := 0, stack := t.stack ++ [(t.fn, (m : Int) + 1)] }, 0) from (stepI_of (i := ⟨8, a, b', c', inn⟩) (t := t) (ans := ans) (rs := t.regs) (n := 0) rfl rfl HPC.out).trans (by unfold outOf moveT; rw [if_neg (show ¬ (8 : Int) = 7 by decide), if_neg (show ¬ (8 : Int) = 6 by decide), if_pos rfl, if_neg hl]))
        have HLT := Lib.hid (show t.stack.length < 16 by omega)
        have HOA := Lib.hid (show Own (w7.alloc (.cells #[.int .i64 (k : Int), .int .i64 ((m : Int) + 1)] 105)) (w.heap.size + 3) 105 2 A5 t.stack.length c5 (t.stack.flatMap frVals) from HM7.out.own.alloc _)
        have HTW := Lib.hid (twocell w7 (.int .i64 (k : Int)) (.int .i64 ((m : Int) + 1)) 105)
        have c1 : Hid (t.stack.length + 1 ≤ maxLen) := by unfold maxLen; show _ ≤ _; omega
        have hgO7 : gO < w7.heap.size := HM7.out.blk.lt
        have hkey8 : ∀ (A8 : Option Addr) (c8 : Nat) (w8 : World), Own w8 (w.heap.size + 3) 105 2 A8 (t.stack.length + 1) c8 (t.stack.flatMap frVals ++ [.int .i64 (k : Int), .int .i64 ((m : Int) + 1)]) → (w7.alloc (.cells #[.int .i64 (k : Int), .int .i64 ((m : Int) + 1)] 105)).grownBy w8 (ob A5) → (ob A8 = ob A5 ∨ ob A8 = some (w7.alloc (.cells #[.int .i64 (k : Int), .int .i64 ((m : Int) + 1)] 105)).heap.size) →
            Blk w8 gO 56 (thArr { t with pc := (m : Int) + 1 } A5 c5) ∧ Blk w8 gI 64 #[.int .i64 8, .int .i64 (a : Int), .int .i64 (b' : Int), .int .i64 (c' : Int), .int .i64 inn] ∧ Blk w8 (w.heap.size + 2) 56 #[.int .i64 0, .int .i64 0, .int .i64 0, .int .i64 0, .int .i64 0, .int .i64 0, .int .i64 0, .int .i64 0, .int .i64 0, .int .i64 0, .slice none 0 0, .bool false] ∧ Below w.heap.size w w8 ∧ ThMem (w8.setCell ⟨gO, 10, none⟩ (.slice A8 (t.stack.length + 1) c8)) (w.heap.size + 3) gO { t with pc := (m : Int) + 1, stack := t.stack ++ [(t.fn, (m : Int) + 1)] } A8 c8 := by
          intro A8 c8 w8 hown hgrow hat
          have hne5 : ∀ g, some g ≠ ob A5 → some g ≠ ob A5 := fun _ h => h
          have hgO : some gO ≠ ob A5 := fun e => by
            rcases HM7.out.ne with h | h
            · rw [h] at e; cases e
            · exact h e.symm
          have hlo : ∀ g, g < w.heap.size + 3 → some g ≠ ob A5 := fun g hg e => by have := (HM7.out.own.lt g e.symm).1; omega
          have hBg := (HM7.out.blk.alloc (.cells #[.int .i64 (k : Int), .int .i64 ((m : Int) + 1)] 105)).grown hgrow hgO
          have hgI : some gI ≠ ob A5 := HNI.out
          refine ⟨hBg, (HI7.out.alloc _).grown hgrow hgI, (HR7.out.alloc _).grown hgrow (hlo _ (by omega)), (HB7.out.alloc HB7.out.size _).grown hgrow (by rw [World.size_alloc]; have := HB7.out.size; omega) (fun j hj => by have := (HM7.out.own.lt j hj).1; omega), ?_⟩
          have hneA : ob A8 = none ∨ ob A8 ≠ some gO := by
            rcases hat with h | h
            · rw [h]; exact HM7.out.ne
            · right
              intro h2
              rw [h] at h2
              injection h2 with h2
              rw [World.size_alloc] at h2
              omega
          have hlen : (t.stack ++ [(t.fn, (m : Int) + 1)]).length = t.stack.length + 1 := by simp
          have hflat : (t.stack ++ [(t.fn, (m : Int) + 1)]).flatMap frVals = t.stack.flatMap frVals ++ [.int .i64 (k : Int), .int .i64 ((m : Int) + 1)] := by simp [frVals, HFN.out]
          refine ⟨?_, ?_, hneA, HM7.out.regs, HM7.out.ge⟩
          · have := hBg.set_ 10 (.slice A8 (t.stack.length + 1) c8)
            rw [← hlen, thArr_set10s A5 A8 c5 c8 _ HM7.out.regs, hlen] at this
            exact this
          · show Own _ _ _ 2 A8 (t.stack ++ [(t.fn, (m : Int) + 1)]).length c8 ((t.stack ++ [(t.fn, (m : Int) + 1)]).flatMap frVals)
            rw [hlen, hflat]
            exact hown.setCell ⟨gO, 10, none⟩ _ hneA
        have KEY8 := Lib.hid hkey8
        have hbs : w.heap.size + 3 ≤ w7.heap.size := by omega
        clear hkey8 hl qa fa q1 f1
        go_wp2_with (at_builtin; refine wpList_append_1 _ rfl _ _ 54 rfl (w.heap.size + 3) 105 i0 _ 2 16 Tryd.underlying54 HI.out HZ0.out HZ1.out HZ2.out rfl (by decide) _ _ _ _ rfl HOA.out ⟨w7.heap.size, 0, none⟩ 1 [.int .i64 (k : Int), .int .i64 ((m : Int) + 1)] rfl rfl HTW.out (by simp [Value.oneCell']) c1.out (by have := HLT.out; omega) (by rw [World.size_alloc]; omega) ?_; intro A8 c8 w8 hown hgrow hat; obtain ⟨hBO, hBI, hBR, hBB, hM8⟩ := KEY8.out A8 c8 w8 hown hgrow hat; have u10 := (hBO.cell 10).trans (thArr_10 A5 c5 HM7.out.regs); have v10 := hBO.frozen 10; have u1 := (hBO.cell 1).trans (thArr_1 A5 c5); have v1 := hBO.frozen 1; have u0 := (hBO.cell 0).trans (thArr_0 A5 c5); have v0 := hBO.frozen 0; have i0' := hBI.cell 0; have i4 := hBI.cell 4; simp only [List.getElem?_toArray, List.getElem?_cons_zero, List.getElem?_cons_succ] at i0' i4; have n2 : gI ≠ gO := (by omega))
        have HM8 := Lib.hid ((hM8.set 0 (.int .i64 inn) (thArr_set0 _ A8 c8 inn) rfl rfl HM7.out.regs).set 1 (.int .i64 0) (thArr_set1 _ A8 c8 0) rfl rfl HM7.out.regs)
        have HR8 := Lib.hid (((hBR.far (p := ⟨gO, 10, none⟩) (by show _ ≠ gO; omega) (.slice A8 (t.stack.length + 1) c8)).far (p := ⟨gO, 0, none⟩) (by show _ ≠ gO; omega) (.int .i64 inn)).far (p := ⟨gO, 1, none⟩) (by show _ ≠ gO; omega) (.int .i64 0))
        have HB8 := Lib.hid (((hBB.setCell (p := ⟨gO, 10, none⟩) (by show _ ≤ gO; omega) (.slice A8 (t.stack.length + 1) c8)).setCell (p := ⟨gO, 0, none⟩) (by show _ ≤ gO; omega) (.int .i64 inn)).setCell (p := ⟨gO, 1, none⟩) (by show _ ≤ gO; omega) (.int .i64 0))
        clear hown hgrow hat hBO hBI hBR hBB hM8
        refine (rasks_in 8 _ HOP.out).mono ?_
        rintro e w9 ⟨rfl, rfl⟩
        rw [show opAsks 8 = false by kernel_rfl]
        have HSZ8 := Lib.hid (show (Tryd.prog.info? 56).map (·.size) = some (thArr { t with fn := inn, pc := 0, stack := t.stack ++ [(t.fn, (m : Int) + 1)] } A8 c8).size by rw [thArr_size A8 c8 HM8.out.regs]; exact Tryd.infoTh)
        have HGO := Lib.hid o4
        clear u10 v10 u1 v1 u0 v0 i0' i4 tt t0 t1 q10 g0 g1 g4 hd16
        go_wp2_with (first | (refine wpList_load_rowW (by rfl) 56 _ rfl gO rfl 56 (thArr { t with fn := inn, pc := 0, stack := t.stack ++ [(t.fn, (m : Int) + 1)] } A8 c8) (0, 0) _ HM8.out.blk Tryd.underlying56 rfl HSZ8.out ?_) | (refine wpList_store_row rfl 56 _ _ rfl (w.heap.size + 2) (thArr { t with fn := inn, pc := 0, stack := t.stack ++ [(t.fn, (m : Int) + 1)] } A8 c8) rfl rfl 56 _ HR8.out HSZ8.out (by rw [thArr_size A8 c8 HM8.out.regs]; rfl) (thArr_one _ A8 c8) ?_))
        refine bodyPost_ret (results_cell3 Tryd.results61 _ _ (w.heap.size + 2) 56 (thArr { t with fn := inn, pc := 0, stack := t.stack ++ [(t.fn, (m : Int) + 1)] } A8 c8) (0, 0) _ rfl (HR8.out.setRow _) Tryd.underlying56 rfl HSZ8.out) rfl ⟨A8, c8, ?_, ?_, (fun k hk => by have := (HM8.out.own.lt k hk).1; omega), ?_⟩
        · rw [HSTEP.out, HE.out]; rfl
        · rw [HSTEP.out, HE.out]
          have hk := HM8.out.ok
          exact ⟨hk.regs, by rw [setRow_size]; exact (own_setRow HM8.out.own (g := w.heap.size + 2) (by omega) _).rowN.more (by rw [setRow_size]; exact Nat.le_refl _), hk.len, hk.cap⟩
        · exact below_setRow HB8.out (by omega) HB8.out.size _
    · by_cases hl : t.stack.length = 0
      · have tt := (HT7.out.cell 10).trans hx10
        rw [hl] at tt
        have HE := Lib.hid (show stepI ⟨9, a, b', c', inn⟩ t ans = (doneT, 0) from (stepI_of (i := ⟨9, a, b', c', inn⟩) (t := t) (ans := ans) (rs := t.regs) (n := 0) rfl rfl HPC.out).trans (by unfold outOf moveT; rw [if_neg (show ¬ (9 : Int) = 7 by decide), if_neg (show ¬ (9 : Int) = 6 by decide), if_neg (show ¬ (9 : Int) = 8 by decide), if_pos rfl, if_pos hl]))
        have HSZD := Lib.hid (show (Tryd.prog.info? 56).map (·.size) = some (thArr doneT none 0).size from Tryd.infoTh)
        clear qa fa q1 f1 g1 g4 hl hx10
        go_wp2_with (first | (refine wpList_load_rowW (by rfl) 56 _ rfl gD rfl 56 (thArr doneT none 0) (0, 0) _ HD7.out Tryd.underlying56 rfl HSZD.out ?_) | (refine wpList_store_row rfl 56 _ _ rfl (w.heap.size + 2) (thArr doneT none 0) rfl rfl 56 _ HR7.out HSZD.out rfl (thArr_one doneT none 0) ?_))
        refine bodyPost_ret (results_cell3 Tryd.results61 _ _ (w.heap.size + 2) 56 (thArr doneT none 0) (0, 0) _ rfl (HR7.out.setRow _) Tryd.underlying56 rfl HSZD.out) rfl ⟨none, 0, ?_, ?_, (fun _ h => by cases h), ?_⟩
        · rw [HSTEP.out, HE.out]; rfl
        · rw [HSTEP.out, HE.out]; exact ⟨rfl, Row.nil, Nat.le_refl _, Nat.zero_le _⟩
        · exact below_setRow HB7.out (by omega) HB7.out.size _
      · obtain ⟨j, hj⟩ : ∃ j, t.stack.length = j + 1 := ⟨t.stack.length - 1, by omega⟩
        have hjl : j < t.stack.length := by omega
        have hj16 : j < 16 := by omega
        have HE := Lib.hid (show stepI ⟨9, a, b', c', inn⟩ t ans = ({ t with fn := t.stack[j].1, pc := t.stack[j].2, stack := t.stack.take j }, 0) from (stepI_of (i := ⟨9, a, b', c', inn⟩) (t := t) (ans := ans) (rs := t.regs) (n := 0) rfl rfl HPC.out).trans (by
          have e1 : t.stack.length - 1 = j := by omega
          have e2 : t.stack.getD j (0, 0) = t.stack[j] := by simp [hjl]
          unfold outOf moveT
          rw [if_neg (show ¬ (9 : Int) = 7 by decide), if_neg (show ¬ (9 : Int) = 6 by decide), if_neg (show ¬ (9 : Int) = 8 by decide), if_pos rfl, if_neg (by simp only; omega)]
          simp only [e1, e2]))
        obtain ⟨b, off, eB, hbl, x0, x1⟩ := fr_cells (HT.out.step HB7.out).row j hjl
        obtain ⟨b5, off5, eA, _, _, _⟩ := fr_cells HM7.out.own.rowN j hjl
        have hbw : b < w.heap.size := by
          rcases HT.out.row with h | ⟨bb, oo, ee, hh, _⟩
          · have h2 : t.stack.length * 2 = 0 := by rw [← flat_length frVals_len, h]; rfl
            omega
          · rw [eB] at ee
            injection ee with ee
            injection ee with ee
            omega
        subst eB
        subst eA
        have hcd : j + 1 ≤ c5 := by
          rcases HM7.out.own.2 with ⟨_, h0⟩ | ⟨_, cap, _, hv, _, _, hnc, _⟩
          · simp only at h0; omega
          · injection hv with _ _ h3
            simp only at hnc
            omega
        have hdm : c5 ≤ maxLen := by
          rcases HM7.out.own.2 with ⟨_, h0⟩ | ⟨_, cap, _, hv, _, _, _, hcm, _⟩
          · simp only at h0; omega
          · injection hv with _ _ h3
            omega
        unfold maxLen at hdm
        have HOT := Lib.hid (own_take HM7.out.own (show j ≤ t.stack.length by omega) (by show 0 < t.stack.length; omega))
        have tt := (HT7.out.cell 10).trans hx10
        have q10 := (HM7.out.blk.cell 10).trans (thArr_10 _ c5 HM7.out.regs)
        simp only at q10
        rw [hj] at tt q10
        have f10 := HM7.out.blk.frozen 10
        have q0 := (HM7.out.blk.cell 0).trans (thArr_0 _ c5)
        have f0 := HM7.out.blk.frozen 0
        have n2 : gI ≠ gO := by omega
        have n3 : b ≠ gO := by omega
        have HJ := Lib.hid hj
        have HJL := Lib.hid hjl
        generalize hxx : t.stack[j] = xx at *
        obtain ⟨y0, y1⟩ := xx
        simp only at x0 x1
        have HM8' := Lib.hid ((HM7.out.set 0 (.int .i64 y0) (thArr_set0 _ _ c5 y0) rfl rfl HM7.out.regs).set 1 (.int .i64 y1) (thArr_set1 _ _ c5 y1) rfl rfl HM7.out.regs)
        have HM8 := Lib.hid (show ThMem (((w7.setCell ⟨gO, 0, none⟩ (.int .i64 y0)).setCell ⟨gO, 1, none⟩ (.int .i64 y1)).setCell ⟨gO, 10, none⟩ (.slice (some ⟨b5, off5, none⟩) j c5)) (w.heap.size + 3) gO { t with fn := y0, pc := y1, stack := t.stack.take j } (some ⟨b5, off5, none⟩) c5 from by
          have hlt : (t.stack.take j).length = j := by rw [List.length_take, HJ.out]; omega
          refine ⟨?_, ?_, HM7.out.ne, HM7.out.regs, HM7.out.ge⟩
          · have h3 := HM8'.out.blk.set_ 10 (.slice (some ⟨b5, off5, none⟩) j c5)
            have h4 := thArr_set10s (t := { t with fn := y0, pc := y1 }) (some ⟨b5, off5, none⟩) (some ⟨b5, off5, none⟩) c5 c5 (t.stack.take j) HM7.out.regs
            rw [hlt] at h4
            rw [h4] at h3
            exact h3
          · show Own _ _ _ 2 _ (t.stack.take j).length c5 ((t.stack.take j).flatMap frVals)
            rw [hlt, flat_take]
            exact ((HOT.out.setCell ⟨gO, 0, none⟩ _ HM7.out.ne).setCell ⟨gO, 1, none⟩ _ HM7.out.ne).setCell ⟨gO, 10, none⟩ _ HM7.out.ne)
        have HR8 := Lib.hid (((HR7.out.far (p := ⟨gO, 0, none⟩) (by show _ ≠ gO; omega) (.int .i64 y0)).far (p := ⟨gO, 1, none⟩) (by show _ ≠ gO; omega) (.int .i64 y1)).far (p := ⟨gO, 10, none⟩) (by show _ ≠ gO; omega) (.slice (some ⟨b5, off5, none⟩) j c5))
        have HB8 := Lib.hid (((HB7.out.setCell (p := ⟨gO, 0, none⟩) (by show _ ≤ gO; omega) (.int .i64 y0)).setCell (p := ⟨gO, 1, none⟩) (by show _ ≤ gO; omega) (.int .i64 y1)).setCell (p := ⟨gO, 10, none⟩) (by show _ ≤ gO; omega) (.slice (some ⟨b5, off5, none⟩) j c5))
        clear hj hjl hxx hl hx10
        go_wp2_with fail
        refine (rasks_in 9 _ HOP.out).mono ?_
        rintro e w9 ⟨rfl, rfl⟩
        rw [show opAsks 9 = false by kernel_rfl]
        have HSZ8 := Lib.hid (show (Tryd.prog.info? 56).map (·.size) = some (thArr { t with fn := y0, pc := y1, stack := t.stack.take j } (some ⟨b5, off5, none⟩) c5).size by rw [thArr_size (some ⟨b5, off5, none⟩) c5 HM8.out.regs]; exact Tryd.infoTh)
        have HGO := Lib.hid o4
        clear qa fa q1 f1 g0 g1 g4 q10 f10 q0 f0 tt x0 x1
        go_wp2_with (first | (refine wpList_load_rowW (by rfl) 56 _ rfl gO rfl 56 (thArr { t with fn := y0, pc := y1, stack := t.stack.take j } (some ⟨b5, off5, none⟩) c5) (0, 0) _ HM8.out.blk Tryd.underlying56 rfl HSZ8.out ?_) | (refine wpList_store_row rfl 56 _ _ rfl (w.heap.size + 2) (thArr { t with fn := y0, pc := y1, stack := t.stack.take j } (some ⟨b5, off5, none⟩) c5) rfl rfl 56 _ HR8.out HSZ8.out (by rw [thArr_size (some ⟨b5, off5, none⟩) c5 HM8.out.regs]; rfl) (thArr_one _ (some ⟨b5, off5, none⟩) c5) ?_))
        refine bodyPost_ret (results_cell3 Tryd.results61 _ _ (w.heap.size + 2) 56 (thArr { t with fn := y0, pc := y1, stack := t.stack.take j } (some ⟨b5, off5, none⟩) c5) (0, 0) _ rfl (HR8.out.setRow _) Tryd.underlying56 rfl HSZ8.out) rfl ⟨(some ⟨b5, off5, none⟩), c5, ?_, ?_, (fun k hk => by have := (HM8.out.own.lt k hk).1; omega), ?_⟩
        · rw [HSTEP.out, HE.out]; rfl
        · rw [HSTEP.out, HE.out]
          have hk := HM8.out.ok
          exact ⟨hk.regs, by rw [setRow_size]; exact (own_setRow HM8.out.own (g := w.heap.size + 2) (by omega) _).rowN.more (by rw [setRow_size]; exact Nat.le_refl _), hk.len, hk.cap⟩
        · exact below_setRow HB8.out (by omega) HB8.out.size _
    · have HE := Lib.hid (show stepI ⟨14, a, b', c', inn⟩ t ans = (doneT, 0) from (stepI_of (i := ⟨14, a, b', c', inn⟩) (t := t) (ans := ans) (rs := t.regs) (n := 0) rfl rfl HPC.out).trans (rfl))
      have HSZD := Lib.hid (show (Tryd.prog.info? 56).map (·.size) = some (thArr doneT none 0).size from Tryd.infoTh)
      clear qa fa q1 f1 g1 g4
      go_wp2_with (first | (refine wpList_load_rowW (by rfl) 56 _ rfl gD rfl 56 (thArr doneT none 0) (0, 0) _ HD7.out Tryd.underlying56 rfl HSZD.out ?_) | (refine wpList_store_row rfl 56 _ _ rfl (w.heap.size + 2) (thArr doneT none 0) rfl rfl 56 _ HR7.out HSZD.out rfl (thArr_one doneT none 0) ?_))
      refine bodyPost_ret (results_cell3 Tryd.results61 _ _ (w.heap.size + 2) 56 (thArr doneT none 0) (0, 0) _ rfl (HR7.out.setRow _) Tryd.underlying56 rfl HSZD.out) rfl ⟨none, 0, ?_, ?_, (fun _ h => by cases h), ?_⟩
      · rw [HSTEP.out, HE.out]; rfl
      · rw [HSTEP.out, HE.out]; exact ⟨rfl, Row.nil, Nat.le_refl _, Nat.zero_le _⟩
      · exact below_setRow HB7.out (by omega) HB7.out.size _
    · have r0 := (HT7.out.cell (2 + a)).trans (HREG.out a ha8)
      have HM8 := HM7
      have HR8 := HR7
      have HB8 := HB7
      have HE := Lib.hid (stepI_of (i := ⟨15, a, b', c', inn⟩) (t := t) (ans := ans) (rs := t.regs) (n := t.regs.getD a 0) rfl rfl HPC.out)
      go_wp2_with fail
      refine (rasks_in 15 _ HOP.out).mono ?_
      rintro e w9 ⟨rfl, rfl⟩
      rw [show opAsks 15 = false by kernel_rfl]
      have HSZ8 := Lib.hid (show (Tryd.prog.info? 56).map (·.size) = some (thArr { t with pc := (m : Int) + 1 } A5 c5).size by rw [thArr_size A5 c5 HM8.out.regs]; exact Tryd.infoTh)
      have HGO := Lib.hid o4
      clear qa fa q1 f1 g0 g1 g4 r0
      go_wp2_with (first | (refine wpList_load_rowW (by rfl) 56 _ rfl gO rfl 56 (thArr { t with pc := (m : Int) + 1 } A5 c5) (0, 0) _ HM8.out.blk Tryd.underlying56 rfl HSZ8.out ?_) | (refine wpList_store_row rfl 56 _ _ rfl (w.heap.size + 2) (thArr { t with pc := (m : Int) + 1 } A5 c5) rfl rfl 56 _ HR8.out HSZ8.out (by rw [thArr_size A5 c5 HM8.out.regs]; rfl) (thArr_one _ A5 c5) ?_))
      refine bodyPost_ret (results_cell3 Tryd.results61 _ _ (w.heap.size + 2) 56 (thArr { t with pc := (m : Int) + 1 } A5 c5) (0, 0) _ rfl (HR8.out.setRow _) Tryd.underlying56 rfl HSZ8.out) rfl ⟨A5, c5, ?_, ?_, (fun k hk => by have := (HM8.out.own.lt k hk).1; omega), ?_⟩
      · rw [HSTEP.out, HE.out]; rfl
      · rw [HSTEP.out, HE.out]
        have hk := HM8.out.ok
        exact ⟨hk.regs, by rw [setRow_size]; exact (own_setRow HM8.out.own (g := w.heap.size + 2) (by omega) _).rowN.more (by rw [setRow_size]; exact Nat.le_refl _), hk.len, hk.cap⟩
      · exact below_setRow HB8.out (by omega) HB8.out.size _
  · have hk : op ≠ 1 ∧ op ≠ 2 ∧ op ≠ 3 ∧ op ≠ 4 ∧ op ≠ 5 ∧ op ≠ 6 ∧ op ≠ 7 ∧ op ≠ 8 ∧ op ≠ 9 ∧ op ≠ 14 ∧ op ≠ 15 := by omega
    clear hkind
    obtain ⟨z1, z2, z3, z4, z5, z6, z7, z8, z9, z14, z15⟩ := hk
    have d1 : (op == 1) = false := by simpa using z1
    have d2 : (op == 2) = false := by simpa using z2
    have d3 : (op == 3) = false := by simpa using z3
    have d4 : (op == 4) = false := by simpa using z4
    have d5 : (op == 5) = false := by simpa using z5
    have d6 : (op == 6) = false := by simpa using z6
    have d7 : (op == 7) = false := by simpa using z7
    have d8 : (op == 8) = false := by simpa using z8
    have d9 : (op == 9) = false := by simpa using z9
    have d14 : (op == 14) = false := by simpa using z14
    have d15 : (op == 15) = false := by simpa using z15
    have hmv : ∀ u : Th, moveT ⟨op, a, b', c', inn⟩ u = some u := fun u => by unfold moveT; simp only; rw [if_neg z7, if_neg z6, if_neg z8, if_neg z9, if_neg z14]
    have hra : regs1 ⟨op, a, b', c', inn⟩ t ans = if opAsks op = true then t.regs.set a ans else t.regs := by
      unfold regs1 reckonV
      simp only
      rw [if_neg z2, if_neg z3, if_neg z4, if_neg z5]
      simp only
      rw [if_neg z1]
      rfl
    have hta : tells1 ⟨op, a, b', c', inn⟩ t ans = if opAsks op = true then ans else 0 := by
      unfold tells1
      simp only
      rw [if_neg z15]
    have HMV := Lib.hid hmv
    have HRA := Lib.hid hra
    have HTL := Lib.hid hta
    clear hmv hra hta z1 z2 z3 z4 z5 z6 z7 z8 z9 z14 z15
    go_wp2_with fail
    refine (rasks_in op _ HOP.out).mono ?_
    rintro e w9 ⟨rfl, rfl⟩
    cases hask : opAsks op with
    | true =>
      have e1 := HRA.out
      have e2 := HTL.out
      rw [hask, if_pos rfl] at e1 e2
      have HE := Lib.hid (show stepI ⟨op, a, b', c', inn⟩ t ans = ({ t with pc := (m : Int) + 1, regs := t.regs.set a ans }, ans) from (stepI_of (i := ⟨op, a, b', c', inn⟩) (t := t) (ans := ans) e1 e2 HPC.out).trans (by rw [HMV.out]; rfl))
      clear e1 e2 hask
      have HM8 := Lib.hid (HM7.out.set (2 + a) (.int .i64 (ans)) (thArr_setreg _ A5 c5 a ha8 HM7.out.regs _) rfl rfl (by simpa using HM7.out.regs))
      have HR8 := Lib.hid (HR7.out.far (p := ⟨gO, 2 + a, none⟩) (by show _ ≠ gO; omega) (.int .i64 (ans)))
      have HB8 := Lib.hid (HB7.out.setCell (p := ⟨gO, 2 + a, none⟩) (by show _ ≤ gO; omega) (.int .i64 (ans)))
      have HSZ8 := Lib.hid (show (Tryd.prog.info? 56).map (·.size) = some (thArr { t with pc := (m : Int) + 1, regs := t.regs.set a (ans) } A5 c5).size by rw [thArr_size A5 c5 HM8.out.regs]; exact Tryd.infoTh)
      have HGO := Lib.hid o4
      skip
      go_wp2_with (first | (refine wpList_load_rowW (by rfl) 56 _ rfl gO rfl 56 (thArr { t with pc := (m : Int) + 1, regs := t.regs.set a (ans) } A5 c5) (0, 0) _ HM8.out.blk Tryd.underlying56 rfl HSZ8.out ?_) | (refine wpList_store_row rfl 56 _ _ rfl (w.heap.size + 2) (thArr { t with pc := (m : Int) + 1, regs := t.regs.set a (ans) } A5 c5) rfl rfl 56 _ HR8.out HSZ8.out (by rw [thArr_size A5 c5 HM8.out.regs]; rfl) (thArr_one _ A5 c5) ?_))
      refine bodyPost_ret (results_cell3 Tryd.results61 _ _ (w.heap.size + 2) 56 (thArr { t with pc := (m : Int) + 1, regs := t.regs.set a (ans) } A5 c5) (0, 0) _ rfl (HR8.out.setRow _) Tryd.underlying56 rfl HSZ8.out) rfl ⟨A5, c5, ?_, ?_, (fun k hk => by have := (HM8.out.own.lt k hk).1; omega), ?_⟩
      · rw [HSTEP.out, HE.out]; rfl
      · rw [HSTEP.out, HE.out]
        have hk := HM8.out.ok
        exact ⟨hk.regs, by rw [setRow_size]; exact (own_setRow HM8.out.own (g := w.heap.size + 2) (by omega) _).rowN.more (by rw [setRow_size]; exact Nat.le_refl _), hk.len, hk.cap⟩
      · exact below_setRow HB8.out (by omega) HB8.out.size _
    | false =>
      have e1 := HRA.out
      have e2 := HTL.out
      rw [hask, if_neg (by decide)] at e1 e2
      have HE := Lib.hid (show stepI ⟨op, a, b', c', inn⟩ t ans = ({ t with pc := (m : Int) + 1 }, 0) from (stepI_of (i := ⟨op, a, b', c', inn⟩) (t := t) (ans := ans) e1 e2 HPC.out).trans (by rw [HMV.out]; rfl))
      clear e1 e2 hask
      have HM8 := HM7
      have HR8 := HR7
      have HB8 := HB7
      have HSZ8 := Lib.hid (show (Tryd.prog.info? 56).map (·.size) = some (thArr { t with pc := (m : Int) + 1 } A5 c5).size by rw [thArr_size A5 c5 HM8.out.regs]; exact Tryd.infoTh)
      have HGO := Lib.hid o4
      skip
      go_wp2_with (first | (refine wpList_load_rowW (by rfl) 56 _ rfl gO rfl 56 (thArr { t with pc := (m : Int) + 1 } A5 c5) (0, 0) _ HM8.out.blk Tryd.underlying56 rfl HSZ8.out ?_) | (refine wpList_store_row rfl 56 _ _ rfl (w.heap.size + 2) (thArr { t with pc := (m : Int) + 1 } A5 c5) rfl rfl 56 _ HR8.out HSZ8.out (by rw [thArr_size A5 c5 HM8.out.regs]; rfl) (thArr_one _ A5 c5) ?_))
      refine bodyPost_ret (results_cell3 Tryd.results61 _ _ (w.heap.size + 2) 56 (thArr { t with pc := (m : Int) + 1 } A5 c5) (0, 0) _ rfl (HR8.out.setRow _) Tryd.underlying56 rfl HSZ8.out) rfl ⟨A5, c5, ?_, ?_, (fun k hk => by have := (HM8.out.own.lt k hk).1; omega), ?_⟩
      · rw [HSTEP.out, HE.out]; rfl
      · rw [HSTEP.out, HE.out]
        have hk := HM8.out.ok
        exact ⟨hk.regs, by rw [setRow_size]; exact (own_setRow HM8.out.own (g := w.heap.size + 2) (by omega) _).rowN.more (by rw [setRow_size]; exact Nat.le_refl _), hk.len, hk.cap⟩
      · exact below_setRow HB8.out (by omega) HB8.out.size _
/-- What the reference's step answers (its stack need not be new). -/
def RsOut (w : World) (r : Th × Int × Bool) (e : Ending) (w' : World) : Prop :=
  ∃ B d, e = .returned (.tuple #[.agg (thArr r.1 B d), .int .i64 r.2.1, .bool r.2.2]) ∧ ThOk w' w'.heap.size r.1 B d ∧ Below w.heap.size w w'
set_option maxHeartbeats 2000000 in
set_option maxRecDepth 100000 in
theorem rStep_done (t : Th) (A B : Option Addr) (c d : Nat) (fs : List Fn) (ans : Int) (w : World) (hm0 : fs.length ≤ maxLen) (hf : FnsOk w w.heap.size A fs) (ht : ThOk w w.heap.size t B d) (hfit : fitsT fs t = true) (hdn : t.done = true) :
    Calls Tryd.prog 61 #[.agg #[.slice A fs.length c], .agg (thArr t B d), .int .i64 ans] w (RsOut w (stepT fs t ans)) := by
  have HSTEP := Lib.hid (show stepT fs t ans = (t, 0, false) by unfold stepT; rw [if_pos hdn])
  have HT := Lib.hid ht
  have HDF := Lib.hid (show (!t.done) = false by rw [hdn]; rfl)
  have HIN := Lib.hid (show (if t.done = true then zeroIns else insAt fs t.fn t.pc) = zeroIns by rw [hdn]; rfl)
  have HSZ := Lib.hid (show (Tryd.prog.info? 56).map (·.size) = some (thArr t B d).size by rw [thArr_size B d ht.regs]; exact Tryd.infoTh)
  have HSX := Lib.hid (thArr_size B d ht.regs)
  have HONE := Lib.hid (thArr_one t B d)
  have HAT := Lib.hid (fun (w' : World) (hb : Below w.heap.size w w') => rAt_any t A B c d fs w' hm0 (hf.step hb) (ht.step hb) hfit)
  generalize hX : thArr t B d = X at *
  have HX := Lib.hid hX
  have hb0 := below3 w (.cells #[.slice A fs.length c] 24) (.cells X 56) (.cells #[.int .i64 0, .int .i64 0, .int .i64 0, .int .i64 0, .int .i64 0, .int .i64 0, .int .i64 0, .int .i64 0, .int .i64 0, .int .i64 0, .slice none 0 0, .bool false] 56)
  have hW : ∃ W : World, Hid (W = ((w.alloc (.cells #[.slice A fs.length c] 24)).alloc (.cells X 56)).alloc (.cells #[.int .i64 0, .int .i64 0, .int .i64 0, .int .i64 0, .int .i64 0, .int .i64 0, .int .i64 0, .int .i64 0, .int .i64 0, .int .i64 0, .slice none 0 0, .bool false] 56)) := ⟨_, rfl⟩
  obtain ⟨W, HW⟩ := hW
  have hBT : Blk W (w.heap.size + 1) 56 X := by rw [HW.out]; exact Blk.alloc (heap_alloc2_new w _ _) _
  have hBR : Blk W (w.heap.size + 2) 56 #[.int .i64 0, .int .i64 0, .int .i64 0, .int .i64 0, .int .i64 0, .int .i64 0, .int .i64 0, .int .i64 0, .int .i64 0, .int .i64 0, .slice none 0 0, .bool false] := by rw [HW.out]; exact blk3 w _ _ _ _
  have hWs : W.heap.size = w.heap.size + 3 := by rw [HW.out]; simp
  rw [← HW.out] at hb0
  have HB0 := Lib.hid hb0
  have HBT := Lib.hid hBT
  have HBR := Lib.hid hBR
  have HWS := Lib.hid hWs
  clear hfit hf ht hdn hb0 hBT hBR hX hWs hm0
  go_enter Tryd.func61, Tryd.ntmps61
  go_wp2_with (refine wpList_load_rowW (by rfl) 56 _ rfl (w.heap.size + 1) rfl 56 X (0, 0) _ (by rw [← HW.out]; exact HBT.out) Tryd.underlying56 rfl HSZ.out ?_)
  rw [← HW.out]
  refine (HAT.out W HB0.out).mono ?_
  rintro e w1 ⟨rfl, hb1⟩
  rw [HDF.out, HIN.out]
  have HB1 := Lib.hid (HB0.out.trans (hb1.mono HB0.out.size))
  have HBT1 := Lib.hid (HBT.out.below hb1 HBT.out.lt)
  have HBR1 := Lib.hid (HBR.out.below hb1 HBR.out.lt)
  have hz1 : w.heap.size + 3 ≤ w1.heap.size := by have := hb1.size; have := HWS.out; omega
  unfold insArr
  clear hb1
  go_wp2_with (first | (refine wpList_load_rowW (by rfl) 56 _ rfl (w.heap.size + 1) rfl 56 X (0, 0) _ (show Blk _ _ _ _ from HBT1.out.alloc _) Tryd.underlying56 rfl HSZ.out ?_) | (refine wpList_store_row rfl 56 _ _ rfl (w.heap.size + 2) X rfl rfl 56 _ (show Blk _ _ _ _ from HBR1.out.alloc _) HSZ.out (by rw [HSX.out]; rfl) HONE.out ?_))
  refine bodyPost_ret (results_cell3 Tryd.results61 _ _ (w.heap.size + 2) 56 X (0, 0) _ rfl ((HBR1.out.alloc _).setRow _) Tryd.underlying56 rfl HSZ.out) rfl ⟨B, d, ?_, ?_, ?_⟩
  · rw [HSTEP.out]
    simp only
    rw [HX.out]
    rfl
  · rw [HSTEP.out]
    exact HT.out.step (below_setRow (HB1.out.alloc (by omega) _) (by omega) (by simp; omega) _)
  · exact below_setRow (HB1.out.alloc (by omega) _) (by omega) (by simp; omega) _
theorem rStep_any (t : Th) (A B : Option Addr) (c d : Nat) (fs : List Fn) (ans : Int) (w : World) (hm0 : fs.length ≤ maxLen) (hf : FnsOk w w.heap.size A fs) (ht : ThOk w w.heap.size t B d) (hfit : fitsT fs t = true) :
    Calls Tryd.prog 61 #[.agg #[.slice A fs.length c], .agg (thArr t B d), .int .i64 ans] w (RsOut w (stepT fs t ans)) := by
  cases hdn : t.done with
  | true => exact rStep_done t A B c d fs ans w hm0 hf ht hfit hdn
  | false => exact (rStep_run t A B c d fs ans w hm0 hf ht hfit hdn).mono fun e w' ⟨B', d', h1, h2, _, h4⟩ => ⟨B', d', h1, h2, h4⟩
end Go.Proofs.YtkfpnppppmccdaaDoor

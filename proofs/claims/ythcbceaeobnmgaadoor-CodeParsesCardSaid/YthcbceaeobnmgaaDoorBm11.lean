/-
  Chapter 5: contract of the reference's Parse. Condition: the bytes lie in memory.
-/
import Derived.Test.YthcbceaeobnmgaaDoorBm10
namespace Go.Proofs.YthcbceaeobnmgaaDoor
open Go.RowKit
/-- What the reference's Parse answers. -/
def RParseOut (w : World) (l : List Nat) (e : Ending) (w' : World) : Prop :=
  (parseB l = true ∧ ∃ A c, e = .returned (.tuple #[.slice A (parseN l) c, .int .i64 0]) ∧ Own w' w.heap.size 4 1 A (parseN l) c (boolVals (parseL l)) ∧ Below w.heap.size w w') ∨
  (parseB l = false ∧ e = .returned (.tuple #[.slice none 0 0, .int .i64 4]) ∧ Below w.heap.size w w')
theorem rparse_short (A : Option Addr) (n c : Nat) (l : List Nat) (w : World) (hl : l.length = n) (hn : n < 2) : Calls Tryd.prog 55 #[.slice A n c] w (RParseOut w l) := by
  have hp : parseB l = false := by unfold parseB sizeB; rw [decide_eq_false (by omega)]; rfl
  have HP := Lib.hid hp
  clear hp hl
  have hd : decide ((n : Int) < 2) = true := by simp; omega
  go_enter Tryd.func55, Tryd.ntmps55
  go_wp2_with fail
  go_ret2
  exact .inr ⟨HP.out, rfl, Below.refl _ _⟩
set_option maxHeartbeats 4000000 in
theorem rparse_big (A : Option Addr) (n c : Nat) (l : List Nat) (w : World) (hl : l.length = n) (hn : 2 ≤ n) (hm : n ≤ maxLen) (hx : ∀ x ∈ l, x < 256) (hr : Row w w.heap.size A (byteVals l)) (hbad : 4096 < parseN l) : Calls Tryd.prog 55 #[.slice A n c] w (RParseOut w l) := by
  have HP := Lib.hid (show parseB l = false by unfold parseB sizeB; rw [decide_eq_false (by omega)]; rfl)
  obtain ⟨b, off, e, hbb, hc⟩ := hr.at_ (k := 0) (by simp [byteVals]; omega)
  subst e
  have hc0 := hc 0 _ (byteVals_at l 0 (by omega))
  have hc1 := hc 1 _ (byteVals_at l 1 (by omega))
  have hb0 := hx l[0] (List.getElem_mem (by omega))
  have hb1 := hx l[1] (List.getElem_mem (by omega))
  have HN := Lib.hid (show parseN l = 256 * l[0] + l[1] by unfold parseN; simp [show 0 < l.length by omega, show 1 < l.length by omega])
  generalize l[0] = b0 at *
  generalize l[1] = b1 at *
  have HL := Lib.hid hl
  have HR := Lib.hid hr
  have HX := Lib.hid hx
  have HC := Lib.hid hc
  unfold maxLen at hm
  have F0 : ∀ w', Below w.heap.size w w' → w'.cell? ⟨b, off, none⟩ = some (.int .u8 b0) := fun w' h => (h.cell (p := ⟨b, off, none⟩) hbb).trans hc0
  have F1 : ∀ w', Below w.heap.size w w' → w'.cell? ⟨b, off + 1, none⟩ = some (.int .u8 b1) := fun w' h => (h.cell (p := ⟨b, off + 1, none⟩) hbb).trans hc1
  have hN : 256 * b0 + b1 < 65536 := by omega
  clear hc hr hx hl hc0 hc1
  have hd : decide ((n : Int) < 2) = false := by simp; omega
  have hbad2 : 4096 < 256 * b0 + b1 := by rw [← HN.out]; exact hbad
  clear hbad
  go_enter Tryd.func55, Tryd.ntmps55
  go_wp2_with fail
  refine region_sch (fun w' => Below w.heap.size w w') [] [0, 1, 2, 3, 4, 5, 6, 7, 8, 9, 10] (by kernel_rfl) (by kernel_rfl) (by kernel_rfl) (fun _ _ d _ _ h => by cases d <;> exact h) (Below.refl _ _).drew ?_
  (try simp only [Act.put, List.setIfInBounds_toArray, List.set_cons_zero, List.set_cons_succ]); refine sch_end ?_; simp only [pickOps, List.getElem?_toArray, List.getElem?_cons_zero, List.getElem?_cons_succ]; (repeat (first | go_big_quiet_skip | (go_big_quiet_want; first | (go_big_quiet_op; first | go_big_quiet_on | ((first | with_reducible refine ⟨_, fun _ _ => rfl, ?_⟩); go_big_quiet_on)) | (simp (contextual := true) [go_sem, F0, F1]; with_reducible refine ⟨_, fun _ _ => rfl, ?_⟩; go_big_quiet_on)))); refine wpQuiet_nil ?_
  clear F0 F1
  go_wp2_with fail
  go_ret2
  exact .inr ⟨HP.out, rfl, (Below.refl _ _).drew⟩
set_option maxHeartbeats 4000000 in
theorem rparse_off (A : Option Addr) (n c : Nat) (l : List Nat) (w : World) (hl : l.length = n) (hn : 2 ≤ n) (hm : n ≤ maxLen) (hx : ∀ x ∈ l, x < 256) (hr : Row w w.heap.size A (byteVals l)) (hin : parseN l ≤ 4096) (hbad : l.length ≠ 2 + (parseN l + 7) / 8) : Calls Tryd.prog 55 #[.slice A n c] w (RParseOut w l) := by
  have HP := Lib.hid (show parseB l = false by unfold parseB sizeB; rw [decide_eq_false (by omega)]; rfl)
  obtain ⟨b, off, e, hbb, hc⟩ := hr.at_ (k := 0) (by simp [byteVals]; omega)
  subst e
  have hc0 := hc 0 _ (byteVals_at l 0 (by omega))
  have hc1 := hc 1 _ (byteVals_at l 1 (by omega))
  have hb0 := hx l[0] (List.getElem_mem (by omega))
  have hb1 := hx l[1] (List.getElem_mem (by omega))
  have HN := Lib.hid (show parseN l = 256 * l[0] + l[1] by unfold parseN; simp [show 0 < l.length by omega, show 1 < l.length by omega])
  generalize l[0] = b0 at *
  generalize l[1] = b1 at *
  have HL := Lib.hid hl
  have HR := Lib.hid hr
  have HX := Lib.hid hx
  have HC := Lib.hid hc
  unfold maxLen at hm
  have F0 : ∀ w', Below w.heap.size w w' → w'.cell? ⟨b, off, none⟩ = some (.int .u8 b0) := fun w' h => (h.cell (p := ⟨b, off, none⟩) hbb).trans hc0
  have F1 : ∀ w', Below w.heap.size w w' → w'.cell? ⟨b, off + 1, none⟩ = some (.int .u8 b1) := fun w' h => (h.cell (p := ⟨b, off + 1, none⟩) hbb).trans hc1
  have hN : 256 * b0 + b1 < 65536 := by omega
  clear hc hr hx hl hc0 hc1
  have hd : decide ((n : Int) < 2) = false := by simp; omega
  have hin2 : 256 * b0 + b1 ≤ 4096 := by rw [← HN.out]; exact hin
  have hne : ((n : Int) != 2 + ((b0 : Int) * 256 + (b1 : Int) + 7) / 8) = true := by rw [HN.out, HL.out] at hbad; simp; omega
  clear hbad hin
  go_enter Tryd.func55, Tryd.ntmps55
  go_wp2_with fail
  refine region_sch (fun w' => Below w.heap.size w w') [] [0, 1, 2, 3, 4, 5, 6, 7, 8, 9, 10] (by kernel_rfl) (by kernel_rfl) (by kernel_rfl) (fun _ _ d _ _ h => by cases d <;> exact h) (Below.refl _ _).drew ?_
  (try simp only [Act.put, List.setIfInBounds_toArray, List.set_cons_zero, List.set_cons_succ]); refine sch_end ?_; simp only [pickOps, List.getElem?_toArray, List.getElem?_cons_zero, List.getElem?_cons_succ]; (repeat (first | go_big_quiet_skip | (go_big_quiet_want; first | (go_big_quiet_op; first | go_big_quiet_on | ((first | with_reducible refine ⟨_, fun _ _ => rfl, ?_⟩); go_big_quiet_on)) | (simp (contextual := true) [go_sem, F0, F1]; with_reducible refine ⟨_, fun _ _ => rfl, ?_⟩; go_big_quiet_on)))); refine wpQuiet_nil ?_
  clear F0 F1
  go_wp2_with fail
  go_ret2
  exact .inr ⟨HP.out, rfl, (Below.refl _ _).drew⟩
def halfN (x m : Nat) : Nat := x / 2 ^ m
theorem halfN_succ (x m : Nat) : halfN x (m + 1) = halfN x m / 2 := by unfold halfN; rw [Nat.pow_succ, Nat.div_div_eq_div_mul]
theorem halfN_le (x m : Nat) : halfN x m ≤ x := Nat.div_le_self _ _
theorem half_bit (x m : Nat) : (((halfN x m : Nat) : Int) % 2 == 1) = x.testBit m := by
  unfold halfN
  rw [Nat.testBit_eq_decide_div_mod_eq]
  have e : (((x / 2 ^ m : Nat) : Int) % 2) = ((x / 2 ^ m % 2 : Nat) : Int) := by omega
  rw [e]
  generalize x / 2 ^ m % 2 = y
  rw [Bool.eq_iff_iff]
  simp
  omega
set_option maxHeartbeats 4000000 in
theorem rparse_main (A : Option Addr) (n c : Nat) (l : List Nat) (w : World) (hl : l.length = n) (hn : 2 ≤ n) (hm : n ≤ maxLen) (hx : ∀ x ∈ l, x < 256) (hr : Row w w.heap.size A (byteVals l)) (hin : parseN l ≤ 4096) (hlen : l.length = 2 + (parseN l + 7) / 8) : Calls Tryd.prog 55 #[.slice A n c] w (RParseOut w l) := by
  have HSZ := Lib.hid (show sizeB l = true by unfold sizeB; rw [decide_eq_true]; omega)
  obtain ⟨i0, hi, hz0, hz1, hz2⟩ := info_parts Tryd.infoBool
  have HI := Lib.hid hi
  have HZ0 := Lib.hid hz0
  have HZ1 := Lib.hid hz1
  have HZ2 := Lib.hid hz2
  clear hi hz0 hz1 hz2
  obtain ⟨b, off, e, hbb, hc⟩ := hr.at_ (k := 0) (by simp [byteVals]; omega)
  subst e
  have hc0 := hc 0 _ (byteVals_at l 0 (by omega))
  have hc1 := hc 1 _ (byteVals_at l 1 (by omega))
  have hb0 := hx l[0] (List.getElem_mem (by omega))
  have hb1 := hx l[1] (List.getElem_mem (by omega))
  have HN := Lib.hid (show parseN l = 256 * l[0] + l[1] by unfold parseN; simp [show 0 < l.length by omega, show 1 < l.length by omega])
  generalize l[0] = b0 at *
  generalize l[1] = b1 at *
  have HL := Lib.hid hl
  have HR := Lib.hid hr
  have HX := Lib.hid hx
  have HC := Lib.hid hc
  unfold maxLen at hm
  have F0 : ∀ w', Below w.heap.size w w' → w'.cell? ⟨b, off, none⟩ = some (.int .u8 b0) := fun w' h => (h.cell (p := ⟨b, off, none⟩) hbb).trans hc0
  have F1 : ∀ w', Below w.heap.size w w' → w'.cell? ⟨b, off + 1, none⟩ = some (.int .u8 b1) := fun w' h => (h.cell (p := ⟨b, off + 1, none⟩) hbb).trans hc1
  have hN : 256 * b0 + b1 < 65536 := by omega
  clear hc hr hx hl hc0 hc1
  have hd : decide ((n : Int) < 2) = false := by simp; omega
  have hn0 : ∃ n0 : Nat, Hid (n0 = 256 * b0 + b1) := ⟨_, rfl⟩
  obtain ⟨n0, HN0⟩ := hn0
  have hin2 : n0 ≤ 4096 := by rw [HN0.out, ← HN.out]; exact hin
  have hn0e : ((b0 : Int) * 256 + (b1 : Int)) = (n0 : Int) := by have := HN0.out; omega
  have HLEN := Lib.hid (show n = 2 + (n0 + 7) / 8 by rw [HN.out, HL.out, ← HN0.out] at hlen; omega)
  have HPN := Lib.hid (show parseN l = n0 by rw [HN.out, HN0.out])
  have hne : ((n : Int) != 2 + ((n0 : Int) + 7) / 8) = false := by have := HLEN.out; simp; omega
  have hnb : n ≤ 600 := by have := HLEN.out; omega
  clear hlen hin
  go_enter Tryd.func55, Tryd.ntmps55
  go_wp2_with fail
  refine region_sch (fun w' => Below w.heap.size w w') [] [0, 1, 2, 3, 4, 5, 6, 7, 8, 9, 10] (by kernel_rfl) (by kernel_rfl) (by kernel_rfl) (fun _ _ d _ _ h => by cases d <;> exact h) (Below.refl _ _).drew ?_
  (try simp only [Act.put, List.setIfInBounds_toArray, List.set_cons_zero, List.set_cons_succ]); refine sch_end ?_; simp only [pickOps, List.getElem?_toArray, List.getElem?_cons_zero, List.getElem?_cons_succ]; (repeat (first | go_big_quiet_skip | (go_big_quiet_want; first | (go_big_quiet_op; first | go_big_quiet_on | ((first | with_reducible refine ⟨_, fun _ _ => rfl, ?_⟩); go_big_quiet_on)) | (simp (contextual := true) [go_sem, F0, F1]; with_reducible refine ⟨_, fun _ _ => rfl, ?_⟩; go_big_quiet_on)))); refine wpQuiet_nil ?_
  clear F0 F1
  clear hn0e
  go_wp2_with fail
  go_loopw [5, 6] (fun v5 vi wr => ∃ (k : Nat) (A : Option Addr) (c : Nat), k ≤ n0 ∧ vi = .int .i64 k ∧ v5 = .slice A k c ∧ Own wr w.heap.size 4 1 A k c (boolVals ((parseL l).take k)) ∧ Below w.heap.size w wr) (fun _ vi _ => n0 - (intOf vi).toNat)
  case atStart => exact ⟨0, none, 0, by omega, rfl, rfl, Own.nil _ _ _ _, (Below.refl _ _).drew⟩
  case round =>
    obtain ⟨k, A2, c2, hk, rfl, rfl, hO, hB⟩ := hrel
    have HO := Lib.hid hO
    have HB := Lib.hid hB
    have hsz : w.heap.size ≤ wr.heap.size := hB.size
    clear hO hB
    by_cases hlt : k < n0
    · have hkl : 2 + k / 8 < l.length := by rw [HL.out]; have := HLEN.out; omega
      have hkn : 2 + k / 8 < n := by rw [← HL.out]; exact hkl
      have hc0 := HC.out (2 + k / 8) _ (byteVals_at l (2 + k / 8) hkl)
      have hc1 : wr.cell? ⟨b, off + (2 + k / 8), none⟩ = some (.int .u8 (l[2 + k / 8] : Nat)) := (HB.out.cell (p := ⟨b, off + (2 + k / 8), none⟩) hbb).trans hc0
      have hxb := HX.out l[2 + k / 8] (List.getElem_mem hkl)
      have hkp : k < (parseL l).length := by rw [parseL_len, HPN.out]; exact hlt
      have HBO := Lib.hid (show (parseL l)[k] = l[2 + k / 8].testBit (k % 8) by
        simp only [parseL, List.getElem_map, List.getElem_range]
        unfold bitOf
        simp [hkl])
      generalize l[2 + k / 8] = x at *
      have hdk : decide ((k : Int) < (n0 : Int)) = true := by simp; omega
      clear hc0
      go_wp2_with fail
      go_loopw [7, 8] (fun v7 v8 wq => ∃ m : Nat, m ≤ k % 8 ∧ wq = wr ∧ v8 = .int .i64 m ∧ v7 = .int .i64 (halfN x m : Nat)) (fun _ v8 _ => k % 8 - (intOf v8).toNat)
      case atStart => exact ⟨0, by omega, rfl, rfl, by simp [halfN]⟩
      case round =>
        obtain ⟨m, hm8, hwq, rfl, rfl⟩ := hrel
        subst hwq
        have hhl := halfN_le x m
        by_cases hmlt : m < k % 8
        · have HHS := Lib.hid (halfN_succ x m)
          generalize halfN x m = y at *
          go_wp2_with fail
          go_roundw
          case rel => exact ⟨m + 1, by omega, trivial, by go_num, by rw [HHS.out]; go_num⟩
          case measure => simp [intOf]; omega
        · have hm88 : m = k % 8 := by omega
          subst hm88
          have hbit := half_bit x (k % 8)
          rw [← HBO.out] at hbit
          generalize halfN x (k % 8) = y at *
          have c1 : Hid (k + 1 ≤ maxLen) := by unfold maxLen; show _ ≤ _; omega
          generalize hz : (parseL l)[k] = z at *
          have HZ := Lib.hid hz
          clear hz
          go_wp2_with (at_builtin; go_must (refine wpList_append_1 _ rfl _ _ 29 rfl w.heap.size 4 i0 _ 1 1 Tryd.underlying29 HI.out HZ0.out HZ1.out HZ2.out rfl (by decide) _ _ _ _ rfl (HO.out.alloc _) ⟨wr.heap.size, 0, none⟩ 1 [.bool z] rfl rfl (onebool _ _ _) (by simp [Value.oneCell']) c1.out (by omega) (by rw [World.size_alloc]; omega) ?_); intro A' c' w5 hown1 hgrow1 hat1)
          go_roundw
          case rel => exact ⟨k + 1, A', c', by omega, by go_num, rfl, by rw [boolVals_succ (parseL l) k hkp, HZ.out]; exact hown1, below_append HB.out HO.out (Nat.le_refl _) hsz hgrow1⟩
          case measure => simp [intOf]; omega
    · have hkn : k = n0 := by omega
      subst hkn
      have hpt : (parseL l).take k = parseL l := List.take_of_length_le (by rw [parseL_len, HPN.out]; exact Nat.le_refl _)
      have hO2 := HO.out
      rw [hpt] at hO2
      have HRW := Lib.hid (hO2.row)
      have HOW := Lib.hid hO2
      have hpl : (parseL l).length = k := by rw [parseL_len, HPN.out]
      have HPL := Lib.hid hpl
      have CV0 : ∀ w', Below wr.heap.size wr w' → (convert 35 9 (.slice (some ⟨b, off, none⟩) n c)).run Tryd.prog w' = .ok (.string (str l)) w' := fun w' h => conv_row _ _ _ Tryd.underlying35 Tryd.underlying5 Tryd.underlying9 HL.out ((HR.out.below HB.out).below (h.mono hsz))
      clear hpt hO2 hpl
      have HSE := Lib.hid (show ((str (bytesOf (parseL l))).toList == (str l).toList) = spareB l by
        rw [bytesStr_eq (bytesOf_ltP _ (by rw [HPL.out]; exact hin2)) HX.out]
        have := bytes_parse HX.out HSZ.out
        cases hsp : spareB l with
        | true => rw [hsp] at this; rw [decide_eq_true (this.2 rfl)]
        | false => rw [hsp] at this; rw [decide_eq_false (fun h => by have := this.1 h; cases this)])
      have HPB := Lib.hid (show parseB l = spareB l by unfold parseB; rw [HSZ.out]; rfl)
      go_wp2_with fail
      refine region_sch (fun w' => Below wr.heap.size wr w') [([0, 3, 4], 1)] [2, 5] (by kernel_rfl) (by kernel_rfl) (by kernel_rfl) (fun _ _ d _ _ h => by cases d <;> exact h) (Below.refl _ _).drew ?_
      (try simp only [Act.put, List.setIfInBounds_toArray, List.set_cons_zero, List.set_cons_succ]); refine sch_seg ?_; simp only [pickOps, List.getElem?_toArray, List.getElem?_cons_zero, List.getElem?_cons_succ]; (repeat (first | go_big_quiet_skip | (go_big_quiet_want; first | (go_big_quiet_op; first | go_big_quiet_on | ((first | with_reducible refine ⟨_, fun _ _ => rfl, ?_⟩); go_big_quiet_on)) | (simp (contextual := true) [go_sem, CV0]; with_reducible refine ⟨_, fun _ _ => rfl, ?_⟩; go_big_quiet_on)))); refine wpQuiet_nil ?_
      go_wp2_with fail
      refine (rbytes_any A2 k c2 (parseL l) wr.drew HPL.out hin2 (show Row wr.drew wr.drew.heap.size A2 (boolVals (parseL l)) from HRW.out)).mono ?_
      rintro e w3 ⟨A', c', rfl, hO3, hb3⟩
      replace hb3 := (Below.refl wr.heap.size wr).drew.trans hb3
      have HO3 := Lib.hid hO3
      have HB3 := Lib.hid hb3
      have CV1 : ∀ w', Below w3.heap.size w3 w' → (convert 35 9 (.slice A' (bytesOf (parseL l)).length c')).run Tryd.prog w' = .ok (.string (str (bytesOf (parseL l)))) w' := fun w' h => conv_row _ _ _ Tryd.underlying35 Tryd.underlying5 Tryd.underlying9 rfl (HO3.out.row.below h)
      clear hO3 hb3 CV0
      go_wp2_with fail
      refine sch_below (Below.refl _ _) (Nat.le_refl _) HB3.out ?_
      (try simp only [Act.put, List.setIfInBounds_toArray, List.set_cons_zero, List.set_cons_succ]); refine sch_end ?_; simp only [pickOps, List.getElem?_toArray, List.getElem?_cons_zero, List.getElem?_cons_succ]; (repeat (first | go_big_quiet_skip | (go_big_quiet_want; first | (go_big_quiet_op; first | go_big_quiet_on | ((first | with_reducible refine ⟨_, fun _ _ => rfl, ?_⟩); go_big_quiet_on)) | (simp (contextual := true) [go_sem, CV1]; with_reducible refine ⟨_, fun _ _ => rfl, ?_⟩; go_big_quiet_on)))); refine wpQuiet_nil ?_
      clear CV1
      rw [HSE.out]
      have hpb := HPB.out
      cases hsp : spareB l with
      | true =>
        rw [hsp] at hpb
        have HPB2 := Lib.hid hpb
        clear hpb hsp
        go_wp2_with fail
        go_ret2
        exact .inl ⟨HPB2.out, A2, c2, by rw [HPN.out]; rfl, by rw [HPN.out]; exact HOW.out.kept (row := none) ⟨HB3.out.os, HB3.out.tape, HB3.out.output, HB3.out.size, fun i hi _ => HB3.out.block i hi⟩ (by cases A2 with | none => exact .inl rfl | some q => right; intro h; cases h), HB.out.trans (HB3.out.mono hsz)⟩
      | false =>
        rw [hsp] at hpb
        have HPB2 := Lib.hid hpb
        clear hpb hsp
        go_wp2_with fail
        go_ret2
        exact .inr ⟨HPB2.out, rfl, HB.out.trans (HB3.out.mono hsz)⟩
theorem rparse_any (A : Option Addr) (n c : Nat) (l : List Nat) (w : World) (hl : l.length = n) (hm : n ≤ maxLen) (hx : ∀ x ∈ l, x < 256) (hr : Row w w.heap.size A (byteVals l)) : Calls Tryd.prog 55 #[.slice A n c] w (RParseOut w l) := by
  by_cases h2 : n < 2
  · exact rparse_short A n c l w hl h2
  by_cases hN : parseN l ≤ 4096
  · by_cases hL : l.length = 2 + (parseN l + 7) / 8
    · exact rparse_main A n c l w hl (by omega) hm hx hr hN hL
    · exact rparse_off A n c l w hl (by omega) hm hx hr hN hL
  · exact rparse_big A n c l w hl (by omega) hm hx hr (by omega)
end Go.Proofs.YthcbceaeobnmgaaDoor

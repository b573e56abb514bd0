/-
  Chapter 5: contract of Parse. Condition: the bytes lie in memory.
-/
import Derived.Test.YthcbceaeobnmgaaDoorPars
namespace Go.Proofs.YthcbceaeobnmgaaDoor
open Go.RowKit
/-- What Parse answers. -/
def ParseOut (w : World) (l : List Nat) (e : Ending) (w' : World) : Prop :=
  (parseB l = true ∧ ∃ g gw ws, e = .returned (.tuple #[.pointer (some ⟨g, 0, none⟩), .int .i64 0]) ∧ Bm w' g gw ws (parseL l) ∧ w.heap.size ≤ g ∧ w.heap.size ≤ gw ∧ Below w.heap.size w w') ∨
  (parseB l = false ∧ e = .returned (.tuple #[.pointer none, .int .i64 4]) ∧ Below w.heap.size w w')

theorem bit_at8 (x b : Nat) (hx : x < 256) : (bits .and .u8 ((x : Int) / 2 ^ b) 1 == 1) = x.testBit b := by
  have e : ((x : Int) / 2 ^ b) = ((x / 2 ^ b : Nat) : Int) := by simp
  have hlt : x / 2 ^ b < 256 := Nat.lt_of_le_of_lt (Nat.div_le_self _ _) hx
  rw [e, show (1 : Int) = ((1 : Nat) : Int) from rfl, u8_and_nat _ 1 hlt (by omega), and_one]
  rw [Nat.testBit_eq_decide_div_mod_eq]
  have : x / 2 ^ b % 2 = 0 ∨ x / 2 ^ b % 2 = 1 := by omega
  rcases this with h | h <;> simp [h]
theorem parse_short (A : Option Addr) (n c : Nat) (l : List Nat) (w : World) (hl : l.length = n) (hn : n < 2) : Calls Tryd.prog 52 #[.slice A n c] w (ParseOut w l) := by
  have hp : parseB l = false := by unfold parseB sizeB; rw [decide_eq_false (by omega)]; rfl
  have HP := Lib.hid hp
  clear hp hl
  have hd : decide ((n : Int) < 2) = true := by simp; omega
  go_enter Tryd.func52, Tryd.ntmps52
  go_wp2_with fail
  go_ret2
  exact .inr ⟨HP.out, rfl, Below.refl _ _⟩
theorem i64_or_byte (b0 b1 : Nat) (h0 : b0 < 256) (h1 : b1 < 256) : bits .or .i64 ((b0 : Int) * 256) (b1 : Int) = ((256 * b0 + b1 : Nat) : Int) := by
  have e : ((b0 : Int) * 256) = ((256 * b0 : Nat) : Int) := by omega
  have hx : (256 * b0) ||| b1 = 256 * b0 + b1 := by
    have := Nat.two_pow_add_eq_or_of_lt (i := 8) (b := b1) (by omega) b0
    rw [← this]
  have h1' : (BitVec.ofInt 64 ((256 * b0 : Nat) : Int)).toNat = 256 * b0 := by
    rw [BitVec.ofInt_natCast, BitVec.toNat_ofNat]; exact Nat.mod_eq_of_lt (by omega)
  have h2' : (BitVec.ofInt 64 (b1 : Int)).toNat = b1 := by
    rw [BitVec.ofInt_natCast, BitVec.toNat_ofNat]; exact Nat.mod_eq_of_lt (by omega)
  rw [e]
  show IntKind.i64.wrap ((BitVec.ofInt 64 ((256 * b0 : Nat) : Int) ||| BitVec.ofInt 64 (b1 : Int)).toNat : Int) = _
  rw [BitVec.toNat_or, h1', h2', hx, IntKind.wrap_i64]
  omega
set_option maxHeartbeats 4000000 in
theorem parse_big (A : Option Addr) (n c : Nat) (l : List Nat) (w : World) (hl : l.length = n) (hn : 2 ≤ n) (hm : n ≤ maxLen) (hx : ∀ x ∈ l, x < 256) (hr : Row w w.heap.size A (byteVals l)) (hbad : 4096 < parseN l) : Calls Tryd.prog 52 #[.slice A n c] w (ParseOut w l) := by
  have HP := Lib.hid (show parseB l = false by unfold parseB sizeB; rw [decide_eq_false (by omega)]; rfl)
  obtain ⟨b, off, e, hbb, hc⟩ := hr.at_ (k := 0) (by simp [byteVals]; omega)
  subst e
  have hc0 := hc 0 _ (byteVals_at l 0 (by omega))
  have hc1 := hc 1 _ (byteVals_at l 1 (by omega))
  have hb0 := hx l[0] (List.getElem_mem (by omega))
  have hb1 := hx l[1] (List.getElem_mem (by omega))
  have HN := Lib.hid (show parseN l = 256 * l[0] + l[1] by unfold parseN; simp [show 0 < l.length by omega, show 1 < l.length by omega])
  generalize l[0] = b0 at *
  generalize l[1] = b1 at *
  have HL := Lib.hid hl
  have HR := Lib.hid hr
  have HX := Lib.hid hx
  have HC := Lib.hid hc
  unfold maxLen at hm
  have F0 : ∀ w', Below w.heap.size w w' → w'.cell? ⟨b, off, none⟩ = some (.int .u8 b0) := fun w' h => (h.cell (p := ⟨b, off, none⟩) hbb).trans hc0
  have F1 : ∀ w', Below w.heap.size w w' → w'.cell? ⟨b, off + 1, none⟩ = some (.int .u8 b1) := fun w' h => (h.cell (p := ⟨b, off + 1, none⟩) hbb).trans hc1
  have F2 := i64_or_byte b0 b1 hb0 hb1
  have hN : 256 * b0 + b1 < 65536 := by omega
  clear hc hr hx hl hc0 hc1
  have hd : decide ((n : Int) < 2) = false := by simp; omega
  have hbad2 : 4096 < 256 * b0 + b1 := by rw [← HN.out]; exact hbad
  clear hbad
  go_enter Tryd.func52, Tryd.ntmps52
  go_wp2_with fail
  refine region_sch (fun w' => Below w.heap.size w w') [([0, 1, 2, 3, 4, 5, 6, 7, 8, 9], 10)] [11] (by kernel_rfl) (by kernel_rfl) (by kernel_rfl) (fun _ _ d _ _ h => by cases d <;> exact h) (Below.refl _ _).drew ?_
  (try simp only [Act.put, List.setIfInBounds_toArray, List.set_cons_zero, List.set_cons_succ]); refine sch_seg ?_; simp only [pickOps, List.getElem?_toArray, List.getElem?_cons_zero, List.getElem?_cons_succ]; (repeat (first | go_big_quiet_skip | (go_big_quiet_want; first | (go_big_quiet_op; first | go_big_quiet_on | ((first | with_reducible refine ⟨_, fun _ _ => rfl, ?_⟩); go_big_quiet_on)) | (simp (contextual := true) [go_sem, F0, F1]; with_reducible refine ⟨_, fun _ _ => rfl, ?_⟩; go_big_quiet_on)))); refine wpQuiet_nil ?_
  clear F0 F1 F2
  go_wp2_with (go_at_call 42; refine (new_bad _ (.inr (by omega)) _).mono ?_; rintro e w1 ⟨rfl, rfl⟩)
  refine ⟨_, (Below.refl _ _).drew, fun _ h => h, ?_⟩
  (try simp only [Act.put, List.setIfInBounds_toArray, List.set_cons_zero, List.set_cons_succ]); refine sch_end ?_; simp only [pickOps, List.getElem?_toArray, List.getElem?_cons_zero, List.getElem?_cons_succ]; (repeat (first | go_big_quiet_skip | (go_big_quiet_want; first | (go_big_quiet_op; first | go_big_quiet_on | ((first | with_reducible refine ⟨_, fun _ _ => rfl, ?_⟩); go_big_quiet_on)) | (simp (contextual := true) [go_sem, HN]; with_reducible refine ⟨_, fun _ _ => rfl, ?_⟩; go_big_quiet_on)))); refine wpQuiet_nil ?_
  go_wp2_with fail
  go_ret2
  exact .inr ⟨HP.out, rfl, (Below.refl _ _).drew⟩
set_option maxHeartbeats 4000000 in
theorem parse_off (A : Option Addr) (n c : Nat) (l : List Nat) (w : World) (hl : l.length = n) (hn : 2 ≤ n) (hm : n ≤ maxLen) (hx : ∀ x ∈ l, x < 256) (hr : Row w w.heap.size A (byteVals l)) (hin : parseN l ≤ 4096) (hbad : l.length ≠ 2 + (parseN l + 7) / 8) : Calls Tryd.prog 52 #[.slice A n c] w (ParseOut w l) := by
  have HP := Lib.hid (show parseB l = false by unfold parseB sizeB; rw [decide_eq_false (by omega)]; rfl)
  obtain ⟨b, off, e, hbb, hc⟩ := hr.at_ (k := 0) (by simp [byteVals]; omega)
  subst e
  have hc0 := hc 0 _ (byteVals_at l 0 (by omega))
  have hc1 := hc 1 _ (byteVals_at l 1 (by omega))
  have hb0 := hx l[0] (List.getElem_mem (by omega))
  have hb1 := hx l[1] (List.getElem_mem (by omega))
  have HN := Lib.hid (show parseN l = 256 * l[0] + l[1] by unfold parseN; simp [show 0 < l.length by omega, show 1 < l.length by omega])
  generalize l[0] = b0 at *
  generalize l[1] = b1 at *
  have HL := Lib.hid hl
  have HR := Lib.hid hr
  have HX := Lib.hid hx
  have HC := Lib.hid hc
  unfold maxLen at hm
  have F0 : ∀ w', Below w.heap.size w w' → w'.cell? ⟨b, off, none⟩ = some (.int .u8 b0) := fun w' h => (h.cell (p := ⟨b, off, none⟩) hbb).trans hc0
  have F1 : ∀ w', Below w.heap.size w w' → w'.cell? ⟨b, off + 1, none⟩ = some (.int .u8 b1) := fun w' h => (h.cell (p := ⟨b, off + 1, none⟩) hbb).trans hc1
  have F2 := i64_or_byte b0 b1 hb0 hb1
  have hN : 256 * b0 + b1 < 65536 := by omega
  clear hc hr hx hl hc0 hc1
  have hd : decide ((n : Int) < 2) = false := by simp; omega
  have hin2 : 256 * b0 + b1 ≤ 4096 := by rw [← HN.out]; exact hin
  have hne : ((n : Int) != 2 + (((256 * b0 + b1 : Nat) : Int) + 8 - 1) / 8) = true := by rw [HN.out, HL.out] at hbad; simp; omega
  clear hbad hin
  generalize 256 * b0 + b1 = n0 at *
  go_enter Tryd.func52, Tryd.ntmps52
  go_wp2_with fail
  refine region_sch (fun w' => Below w.heap.size w w') [([0, 1, 2, 3, 4, 5, 6, 7, 8, 9], 10)] [11] (by kernel_rfl) (by kernel_rfl) (by kernel_rfl) (fun _ _ d _ _ h => by cases d <;> exact h) (Below.refl _ _).drew ?_
  (try simp only [Act.put, List.setIfInBounds_toArray, List.set_cons_zero, List.set_cons_succ]); refine sch_seg ?_; simp only [pickOps, List.getElem?_toArray, List.getElem?_cons_zero, List.getElem?_cons_succ]; (repeat (first | go_big_quiet_skip | (go_big_quiet_want; first | (go_big_quiet_op; first | go_big_quiet_on | ((first | with_reducible refine ⟨_, fun _ _ => rfl, ?_⟩); go_big_quiet_on)) | (simp (contextual := true) [go_sem, F0, F1]; with_reducible refine ⟨_, fun _ _ => rfl, ?_⟩; go_big_quiet_on)))); refine wpQuiet_nil ?_
  clear F0 F1 F2
  go_wp2_with fail
  refine (new_any (n0) (by omega) _).mono ?_
  rintro e w1 ⟨g, gw, ws, rfl, hM, hg, hgw, hb⟩
  replace hg : w.heap.size ≤ g := hg
  replace hgw : w.heap.size ≤ gw := hgw
  have HM := Lib.hid hM
  have HB := Lib.hid ((Below.refl w.heap.size w).drew.trans hb)
  have h0 := hM.blk.cell 0
  simp only [List.length_replicate, List.getElem?_toArray, List.getElem?_cons_zero] at h0
  clear hM hb
  go_wp2_with fail
  refine ⟨fun w' => Below w.heap.size w w', HB.out, fun _ h => h, ?_⟩
  (try simp only [Act.put, List.setIfInBounds_toArray, List.set_cons_zero, List.set_cons_succ]); refine sch_end ?_; simp only [pickOps, List.getElem?_toArray, List.getElem?_cons_zero, List.getElem?_cons_succ]; (repeat (first | go_big_quiet_skip | (go_big_quiet_want; first | (go_big_quiet_op; first | go_big_quiet_on | ((first | with_reducible refine ⟨_, fun _ _ => rfl, ?_⟩); go_big_quiet_on)) | (simp (contextual := true) [go_sem, HN]; with_reducible refine ⟨_, fun _ _ => rfl, ?_⟩; go_big_quiet_on)))); refine wpQuiet_nil ?_
  go_wp2_with fail
  go_ret2
  exact .inr ⟨HP.out, rfl, HB.out⟩
theorem set_in {w : World} {g gw : Nat} {ws : List Nat} {l : List Nat} {p : Nat} (i : Int) (hi : i = (p : Int)) (M : Bm w g gw ws (uptoP l p)) (hp : p < parseN l) (hb : bitOf l p = true) :
    Calls Tryd.prog 43 #[.pointer (some ⟨g, 0, none⟩), .int .i64 i] w fun e w' => e = .returned (.bool true) ∧ ∃ ws', Bm w' g gw ws' (uptoP l (p + 1)) ∧ w.grownBy w' (some gw) := by
  refine (set_any i M).mono ?_
  rintro e w' ⟨rfl, ws', hM, hg, _⟩
  subst hi
  have e1 : turnL (uptoP l p) p true = uptoP l (p + 1) := by
    rw [uptoP_set l p hp hb]
    unfold turnL
    rw [if_pos ⟨by omega, by rw [uptoP_len]; omega⟩]
    simp
  rw [e1] at hM
  refine ⟨?_, ws', hM, hg⟩
  rw [hasB_uptoP, uptoP_len]
  simp
  omega
theorem set_out {w : World} {g gw : Nat} {ws : List Nat} {l : List Nat} {p : Nat} (i : Int) (hi : i = (p : Int)) (M : Bm w g gw ws (uptoP l p)) (hp : ¬ p < parseN l) :
    Calls Tryd.prog 43 #[.pointer (some ⟨g, 0, none⟩), .int .i64 i] w fun e w' => e = .returned (.bool false) ∧ w.grownBy w' (some gw) := by
  refine (set_any i M).mono ?_
  rintro e w' ⟨rfl, ws', hM, hg, _⟩
  subst hi
  refine ⟨?_, hg⟩
  rw [uptoP_len]
  simp
  omega
set_option maxHeartbeats 8000000 in
theorem parse_main (A : Option Addr) (n c : Nat) (l : List Nat) (w : World) (hl : l.length = n) (hn : 2 ≤ n) (hm : n ≤ maxLen) (hx : ∀ x ∈ l, x < 256) (hr : Row w w.heap.size A (byteVals l)) (hcap : n ≤ c) (hin : parseN l ≤ 4096) (hlen : l.length = 2 + (parseN l + 7) / 8) : Calls Tryd.prog 52 #[.slice A n c] w (ParseOut w l) := by
  have HSZ := Lib.hid (show sizeB l = true by unfold sizeB; rw [decide_eq_true]; omega)
  obtain ⟨b, off, e, hbb, hc⟩ := hr.at_ (k := 0) (by simp [byteVals]; omega)
  subst e
  have hc0 := hc 0 _ (byteVals_at l 0 (by omega))
  have hc1 := hc 1 _ (byteVals_at l 1 (by omega))
  have hb0 := hx l[0] (List.getElem_mem (by omega))
  have hb1 := hx l[1] (List.getElem_mem (by omega))
  have HN := Lib.hid (show parseN l = 256 * l[0] + l[1] by unfold parseN; simp [show 0 < l.length by omega, show 1 < l.length by omega])
  generalize l[0] = b0 at *
  generalize l[1] = b1 at *
  have HL := Lib.hid hl
  have HR := Lib.hid hr
  have HX := Lib.hid hx
  have HC := Lib.hid hc
  unfold maxLen at hm
  have F0 : ∀ w', Below w.heap.size w w' → w'.cell? ⟨b, off, none⟩ = some (.int .u8 b0) := fun w' h => (h.cell (p := ⟨b, off, none⟩) hbb).trans hc0
  have F1 : ∀ w', Below w.heap.size w w' → w'.cell? ⟨b, off + 1, none⟩ = some (.int .u8 b1) := fun w' h => (h.cell (p := ⟨b, off + 1, none⟩) hbb).trans hc1
  have F2 := i64_or_byte b0 b1 hb0 hb1
  have hN : 256 * b0 + b1 < 65536 := by omega
  clear hc hr hx hl hc0 hc1
  have hd : decide ((n : Int) < 2) = false := by simp; omega
  have hin2 : 256 * b0 + b1 ≤ 4096 := by rw [← HN.out]; exact hin
  have hne : ((n : Int) != 2 + (((256 * b0 + b1 : Nat) : Int) + 8 - 1) / 8) = false := by rw [HN.out, HL.out] at hlen; simp; omega
  have HLEN := Lib.hid (show n = 2 + (256 * b0 + b1 + 7) / 8 by rw [HN.out, HL.out] at hlen; omega)
  clear hlen hin
  generalize 256 * b0 + b1 = n0 at *
  go_enter Tryd.func52, Tryd.ntmps52
  go_wp2_with fail
  refine region_sch (fun w' => Below w.heap.size w w') [([0, 1, 2, 3, 4, 5, 6, 7, 8, 9], 10)] [11] (by kernel_rfl) (by kernel_rfl) (by kernel_rfl) (fun _ _ d _ _ h => by cases d <;> exact h) (Below.refl _ _).drew ?_
  (try simp only [Act.put, List.setIfInBounds_toArray, List.set_cons_zero, List.set_cons_succ]); refine sch_seg ?_; simp only [pickOps, List.getElem?_toArray, List.getElem?_cons_zero, List.getElem?_cons_succ]; (repeat (first | go_big_quiet_skip | (go_big_quiet_want; first | (go_big_quiet_op; first | go_big_quiet_on | ((first | with_reducible refine ⟨_, fun _ _ => rfl, ?_⟩); go_big_quiet_on)) | (simp (contextual := true) [go_sem, F0, F1]; with_reducible refine ⟨_, fun _ _ => rfl, ?_⟩; go_big_quiet_on)))); refine wpQuiet_nil ?_
  clear F0 F1 F2
  go_wp2_with fail
  refine (new_any n0 (by omega) _).mono ?_
  rintro e w1 ⟨g, gw, ws, rfl, hM, hg, hgw, hb⟩
  replace hg : w.heap.size ≤ g := hg
  replace hgw : w.heap.size ≤ gw := hgw
  have HM := Lib.hid hM
  have HB := Lib.hid ((Below.refl w.heap.size w).drew.trans hb)
  have h0 := hM.blk.cell 0
  simp only [List.length_replicate, List.getElem?_toArray, List.getElem?_cons_zero] at h0
  clear hM hb
  go_wp2_with fail
  refine ⟨fun w' => Below w.heap.size w w', HB.out, fun _ h => h, ?_⟩
  (try simp only [Act.put, List.setIfInBounds_toArray, List.set_cons_zero, List.set_cons_succ]); refine sch_end ?_; simp only [pickOps, List.getElem?_toArray, List.getElem?_cons_zero, List.getElem?_cons_succ]; (repeat (first | go_big_quiet_skip | (go_big_quiet_want; first | (go_big_quiet_op; first | go_big_quiet_on | ((first | with_reducible refine ⟨_, fun _ _ => rfl, ?_⟩); go_big_quiet_on)) | (simp (contextual := true) [go_sem, HN]; with_reducible refine ⟨_, fun _ _ => rfl, ?_⟩; go_big_quiet_on)))); refine wpQuiet_nil ?_
  by_cases hc2 : c = 2
  · have hn2 : n = 2 := by omega
    have hn00 : n0 = 0 := by have := HLEN.out; omega
    subst hc2 hn2 hn00
    go_wp2_with fail
    go_loopw [40] (fun vi wr => vi = .int .i64 0 ∧ wr = w1) (fun _ _ => 0)
    case atStart => exact ⟨rfl, rfl⟩
    case round =>
      obtain ⟨rfl, rfl⟩ := hrel
      go_wp2_with fail
      go_ret2
      refine .inl ⟨?_, g, gw, ws, rfl, ?_, hg, hgw, HB.out⟩
      · unfold parseB
        rw [HSZ.out, spare_of (fun i h1 h2 => by rw [HN.out] at h1; omega)]
        rfl
      · have := HM.out
        unfold parseL
        rw [HN.out]
        exact this
  · have hc2' : 2 < c := by omega
    have hnb : n ≤ 600 := by have := HLEN.out; omega
    clear hc2
    go_wp2_with fail
    go_loopw [40] (fun vi wr => ∃ (k : Nat) (ws : List Nat), k ≤ n - 2 ∧ vi = .int .i64 k ∧ Bm wr g gw ws (uptoP l (8 * k)) ∧ Below w.heap.size w wr ∧ Hid (∀ i, i < 8 * k → n0 ≤ i → bitOf l i = false)) (fun vi _ => n - 2 - (intOf vi).toNat)
    case atStart => exact ⟨0, ws, by omega, rfl, by rw [uptoP_zero, HN.out]; exact HM.out, HB.out, (fun i h => absurd h (by omega))⟩
    case round =>
      obtain ⟨k, ws2, hk, rfl, hM, hb, HSP⟩ := hrel
      clear HM HB h0
      have HM := Lib.hid hM
      have HB := Lib.hid hb
      clear hM hb
      obtain ⟨wo, rfl⟩ : ∃ wo : World, wo = wr := ⟨_, rfl⟩
      by_cases hlt : k < n - 2
      · have hkl : 2 + k < l.length := by rw [HL.out]; omega
        have hc0 := HC.out (2 + k) _ (byteVals_at l (2 + k) hkl)
        have hc1 : wo.cell? ⟨b, off + (2 + k), none⟩ = some (.int .u8 (l[2 + k] : Nat)) := (HB.out.cell (p := ⟨b, off + (2 + k), none⟩) hbb).trans hc0
        have hc2 : wo.cell? ⟨b, off + 2 + k, none⟩ = some (.int .u8 (l[2 + k] : Nat)) := by rw [Nat.add_assoc]; exact hc1
        have hxb := HX.out l[2 + k] (List.getElem_mem hkl)
        have HBO := Lib.hid (show ∀ m, m < 8 → bitOf l (8 * k + m) = l[2 + k].testBit m from fun m hm8 => by
          unfold bitOf
          have e1 : 2 + (8 * k + m) / 8 = 2 + k := by omega
          have e2 : (8 * k + m) % 8 = m := by omega
          rw [e1, e2]
          simp [hkl])
        generalize l[2 + k] = x at *
        have hdk : decide ((k : Int) < ((n - 2 : Nat) : Int)) = true := by simp; omega
        clear hc0 hc1
        go_wp2_with fail
        go_loopw [45] (fun vi wq => ∃ (m : Nat) (ws : List Nat), m ≤ 8 ∧ vi = .int .i64 m ∧ Bm wq g gw ws (uptoP l (8 * k + m)) ∧ Below w.heap.size w wq ∧ Hid (∀ i, i < 8 * k + m → n0 ≤ i → bitOf l i = false)) (fun vi _ => 8 - (intOf vi).toNat)
        case atStart => exact ⟨0, ws2, by omega, rfl, HM.out, HB.out, HSP⟩
        case round =>
          obtain ⟨m, ws3, hm8, rfl, hM, hb, HSP2⟩ := hrel
          clear HM HB HSP hc2
          have HM := Lib.hid hM
          have HB := Lib.hid hb
          clear hM hb
          by_cases hmlt : m < 8
          · have HBM := Lib.hid (HBO.out m hmlt)
            have hba := bit_at8 x m hxb
            cases hbit : x.testBit m with
            | false =>
              rw [hbit] at hba
              have HF := Lib.hid (HBM.out.trans hbit)
              clear hbit
              go_wp2_with fail
              go_roundw
              case rel =>
                refine ⟨m + 1, ws3, by omega, by go_num, ?_, HB.out, ?_⟩
                · rw [← Nat.add_assoc, uptoP_same l _ HF.out]; exact HM.out
                · show ∀ i, i < _ → _
                  intro i h1 h2
                  by_cases hi : i < 8 * k + m
                  · exact HSP2.out i hi h2
                  · have : i = 8 * k + m := by omega
                    rw [this]; exact HF.out
              case measure => simp [intOf]; omega
            | true =>
              rw [hbit] at hba
              have HF := Lib.hid (HBM.out.trans hbit)
              have he := Lib.hid (show ((k : Int) * 8 + (m : Int)) = ((8 * k + m : Nat) : Int) by omega)
              clear hbit
              by_cases hin3 : 8 * k + m < n0
              · go_wp2_with fail
                refine (set_in _ he.out HM.out (by rw [HN.out]; exact hin3) HF.out).mono ?_
                rintro e w3 ⟨rfl, ws4, hM4, hg4⟩
                have HM4 := Lib.hid hM4
                have HB4 := Lib.hid (HB.out.grown hg4 HB.out.size (fun q hq => by injection hq with hq; omega))
                clear hM4 hg4
                go_wp2_with fail
                go_roundw
                case rel =>
                  refine ⟨m + 1, ws4, by omega, by go_num, HM4.out, HB4.out, ?_⟩
                  show ∀ i, i < _ → _
                  intro i h1 h2
                  exact HSP2.out i (by omega) h2
                case measure => simp [intOf]; omega
              · have hin4 := Lib.hid hin3
                have HSO := Lib.hid (set_out (p := 8 * k + m) ((k : Int) * 8 + (m : Int)) he.out HM.out (by rw [HN.out]; exact hin4.out))
                clear hin3
                go_wp2_with fail
                refine HSO.out.mono ?_
                rintro e w3 ⟨rfl, hg4⟩
                have HB4 := Lib.hid (HB.out.grown hg4 HB.out.size (fun q hq => by injection hq with hq; omega))
                clear hg4
                go_wp2_with fail
                go_ret2
                refine .inr ⟨?_, rfl, HB4.out⟩
                unfold parseB
                rw [spare_not (i := 8 * k + m) (by rw [HN.out]; have := HLEN.out; omega) (by rw [HN.out]; have := hin4.out; omega) HF.out]
                simp
          · have hm88 : m = 8 := by omega
            subst hm88
            go_wp2_with fail
            go_roundw
            case rel => exact ⟨k + 1, ws3, by omega, by go_num, HM.out, HB.out, HSP2⟩
            case measure => simp [intOf]; omega
      · have hkn : k = n - 2 := by omega
        subst hkn
        go_wp2_with fail
        go_ret2
        refine .inl ⟨?_, g, gw, ws2, rfl, ?_, hg, hgw, HB.out⟩
        · unfold parseB
          rw [HSZ.out, spare_of (fun i h1 h2 => by rw [HN.out] at h1 h2; exact HSP.out i (by have := HLEN.out; omega) h2)]
          rfl
        · rw [← uptoP_all l (8 * (n - 2)) (by rw [HN.out]; have := HLEN.out; omega)]
          exact HM.out
theorem parse_any (A : Option Addr) (n c : Nat) (l : List Nat) (w : World) (hl : l.length = n) (hcap : n ≤ c) (hm : c ≤ maxLen) (hx : ∀ x ∈ l, x < 256) (hr : Row w w.heap.size A (byteVals l)) : Calls Tryd.prog 52 #[.slice A n c] w (ParseOut w l) := by
  by_cases h2 : n < 2
  · exact parse_short A n c l w hl h2
  by_cases hN : parseN l ≤ 4096
  · by_cases hL : l.length = 2 + (parseN l + 7) / 8
    · exact parse_main A n c l w hl (by omega) (by omega) hx hr hcap hN hL
    · exact parse_off A n c l w hl (by omega) (by omega) hx hr hN hL
  · exact parse_big A n c l w hl (by omega) (by omega) hx hr (by omega)
end Go.Proofs.YthcbceaeobnmgaaDoor

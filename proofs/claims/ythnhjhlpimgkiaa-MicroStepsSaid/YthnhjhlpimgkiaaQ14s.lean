/-
  Proved: the law MicroSteps holds for every Begin, every int, every slice of Acts and every slice of ints. Conditions: none.
-/
import Derived.Test.YthnhjhlpimgkiaaTia14
import Derived.Test.YthnhjhlpimgkiaaPtt14
import Derived.Test.YthnhjhlpimgkiaaRlo14
import Derived.Deep.DeepMust
import Derived.Lib.SliceRun
import Derived.Test.YthnhjhlpimgkiaaGtt14
import Derived.LoopTactic
import Derived.Test.YthnhjhlpimgkiaaRst14
import Derived.Test.YthnhjhlpimgkiaaOpen
import Derived.Laws.CopyRow
import Derived.Test.YthnhjhlpimgkiaaSol14
import Derived.Test.YthnhjhlpimgkiaaAlv14
import Derived.Test.YthnhjhlpimgkiaaLai14
import Derived.Test.YthnhjhlpimgkiaaFrame
namespace Go.Proofs.Ythnhjhlpimgkiaa
open Go.RowKit
set_option maxHeartbeats 1000000 in
set_option maxRecDepth 100000 in
theorem clone64_any (C : Option Addr) (n c : Nat) (l : List Int) (w : World) (hl : l.length = n) (hn : n ≤ 65536) (hr : Row w w.heap.size C (ints l)) :
    Calls Try.prog 31 #[.slice C n c] w fun e w' => ∃ A' c', e = .returned (.slice A' n c') ∧ Own w' w.heap.size 2 1 A' n c' (ints l) ∧ Below w.heap.size w w' := by
  have q51 : ∀ (w : World) (a : Option Addr) (n c n' c' : Nat), (binOp .eql 31 (.slice a n c) (.slice none n' c')).run Try.prog w = .ok (.bool a.isNone) w := fun w a n c n' c' => Lib.run_eql_slice_nil w _ _ a n c n' c' Try.underlying31
  obtain ⟨i0, hi, hz0, hz1, hz2⟩ := info_parts Try.info2
  cases C with
  | none =>
    have h0 : l = [] := by
      rcases hr with h | ⟨b, off, e, _⟩
      · cases l with
        | nil => rfl
        | cons a l => simp [ints] at h
      · cases e
    subst h0
    obtain rfl : n = 0 := by simpa using hl.symm
    clear hl hr hi hz0 hz1 hz2
    go_enter Try.func31, Try.ntmps31
    go_wp2
    go_ret
    exact ⟨none, 0, rfl, Own.nil _ _ _ _, Below.refl _ _⟩
  | some q =>
    have hlen : (ints l).length = n * 1 := by simp [ints, hl]
    have hc : ∀ j u, (ints l)[j]? = some u → w.cell? (q.add j) = some u := by
      rcases hr with h | ⟨b, off, e, _, h⟩
      · intro j u hu; rw [h] at hu; cases hu
      · cases e
        intro j u hu
        rw [Addr.add_lit]
        exact h j u hu
    have HC := Lib.hid hc
    have HL := Lib.hid hlen
    have H1 := Lib.hid (ints_ones l)
    have HI := Lib.hid hi
    have HZ0 := Lib.hid hz0
    have HZ1 := Lib.hid hz1
    have HZ2 := Lib.hid hz2
    clear hc hlen hl hr hi hz0 hz1 hz2
    go_enter Try.func31, Try.ntmps31
    go_wp2_with (at_builtin; refine wpList_append_own _ rfl _ _ 31 rfl w.heap.size 2 i0 _ 1 8 Try.underlying31 HI.out HZ0.out HZ1.out HZ2.out rfl (by decide) _ _ _ rfl (World.ownsRow_made w #[] 0 (Nat.le_refl _) (Nat.zero_le _) (by simp)) q n c (ints l) rfl ?qc1 ?qc2 ?qc3 ?qc4 ?qc5 ?qc6 ?_)
    case qc1 => exact HL.out
    case qc2 =>
      intro j u hj
      exact Lib.cell?_alloc_some _ (HC.out j u hj)
    case qc3 => exact H1.out
    case qc4 => rw [Nat.zero_add]; unfold maxLen; omega
    case qc5 => omega
    case qc6 => simp
    intro v' w1 hown hgrow hnil
    have hex : ∃ A' cc, v' = .slice A' n cc := by
      rcases hown.2 with ⟨hv, h0⟩ | ⟨g, cap, cur, hv, _⟩
      · exact absurd hv hnil
      · exact ⟨_, _, hv⟩
    obtain ⟨A', cc, rfl⟩ := hex
    go_wp2_with fail
    go_ret
    refine ⟨A', cc, rfl, ?_, ?_⟩
    · exact hown
    · exact ((Below.refl _ w).alloc (Nat.le_refl _) _).grown hgrow (by simp) (by intro k hk; simp [Value.ownBlock] at hk; omega)
/-- Got of a task: what it got, in memory of its own. -/
theorem got_any {w : World} {Q : Nat → Prop} {gt gr gc gl kc size cnt : Nat} {ex : List Value} {xs : List Int} {P : Pt} (I : TI w Q gt gr gc gl kc ex size xs cnt P) (hg : P.gs.length ≤ 65536) :
    Calls Try.prog 14 #[.pointer (some ⟨gt, 0, none⟩)] w fun e w' => ∃ A' n' c', e = .returned (.slice A' n' c') ∧ Own w' w.heap.size 2 1 A' n' c' (ints P.gs) ∧ Below w.heap.size w w' := by
  obtain ⟨A, c, G, m, e, I⟩ := I
  cases hd : P.d with
  | some a =>
    have ho := I.hot (by rw [hd]; exact Option.some_ne_none _)
    have hgs : P.gs = [] := by
      rcases I.got.row with h | ⟨b, off, hG, _⟩
      · simpa [ints] using h
      · rw [hG] at ho
        cases ho
    refine (mgot_none I.mem.task (.inr (by simp only [tk, hd]; exact Option.some_ne_none _))).mono ?_
    rintro e w' ⟨rfl, rfl⟩
    exact ⟨none, 0, 0, rfl, by rw [hgs]; exact Own.nil _ _ _ _, Below.refl _ _⟩
  | none =>
    have hl : P.gs.length = m := by have := I.got.length; simpa [ints] using this
    have HC := Lib.hid (clone64_any G m e P.gs w hl (by omega) I.got.row)
    have HD := Lib.hid (mdone_any I.mem.task)
    have hdn : (tk P A c G m e).d.isNone = true := by simp [tk, hd]
    rw [hdn] at HD
    obtain ⟨-, -, -, -, -, -, -, -, q8, -⟩ := ten_ I.mem.task
    simp only [tk] at q8
    clear I hl hdn
    go_enter Try.func14, Try.ntmps14
    go_wp2_with (first | (go_at_call 10; refine HD.out.mono ?_; rintro e w1 ⟨rfl, rfl⟩) | (go_at_call 31; refine HC.out.mono ?_; rintro e w1 ⟨A', c', rfl, hO, hB⟩))
    go_ret
    exact ⟨A', m, c', rfl, hO, hB⟩
end Go.Proofs.Ythnhjhlpimgkiaa
namespace Go.Proofs.Ythnhjhlpimgkiaa
open Go.RowKit
theorem cells_row {w : World} {gc gl kc cnt : Nat} {ex : List Value} {xs : List Int} (h : CellsIs w gc gl kc ex xs cnt) : Row w w.heap.size (some ⟨gl, 0, none⟩) (ints xs) := by
  refine .inr ⟨gl, 0, rfl, h.row.lt, fun j u hu => ?_⟩
  rw [Nat.zero_add, h.row.cell j, List.getElem?_toArray, List.getElem?_append_left (by have := (List.getElem?_eq_some_iff.1 hu).1; exact this)]
  exact hu
theorem own_full {w : World} {base n c : Nat} {A : Option Addr} {xs : List Int} (h : Own w base 2 1 A n c (ints xs)) (h0 : 0 < xs.length) : ∃ g ex, A = some ⟨g, 0, none⟩ ∧ base ≤ g ∧ Blk w g 2 (ints xs ++ ex).toArray ∧ n = xs.length := by
  have hl : xs.length = n := by have := h.length; simpa [ints] using this
  rcases h.2 with ⟨hv, hn⟩ | ⟨g, cap, cur, hv, hb, hh, h4, h5, h6, h7⟩
  · omega
  · injection hv with hA hn hc
    refine ⟨g, cur.toList.drop n, hA, hb, ?_, hl.symm⟩
    have e : (ints xs ++ cur.toList.drop n).toArray = cur := by
      rw [← h7, Nat.mul_one, List.take_append_drop]
    rw [e]
    exact hh
theorem copy_any {w : World} {gc gl kc cnt : Nat} {ex : List Value} {xs : List Int} (h : CellsIs w gc gl kc ex xs cnt) (h0 : 0 < xs.length) :
    Calls Try.prog 39 #[.pointer (some ⟨gc, 0, none⟩)] w fun e w' => ∃ gc' gl' kc' ex', e = .returned (.pointer (some ⟨gc', 0, none⟩)) ∧ CellsIs w' gc' gl' kc' ex' xs cnt ∧ w.heap.size ≤ gc' ∧ w.heap.size ≤ gl' ∧ Below w.heap.size w w' := by
  have hdr : Below w.heap.size w w.drew := (Below.refl _ w).drew
  have hd := h.below hdr
  have HC := Lib.hid (clone64_any (some ⟨gl, 0, none⟩) xs.length kc xs w.drew rfl (by have := h.size; omega) (cells_row hd))
  obtain ⟨⟨k0, k1⟩, -, -⟩ := two_ h.head
  have F0 : ∀ w', SB w w' → w'.cell? ⟨gc, 0, none⟩ = some (.slice (some ⟨gl, 0, none⟩) xs.length kc) := fun w' hb => hb.cell h.head k0
  have F1 : ∀ w', SB w w' → w'.cell? ⟨gc, 1, none⟩ = some (.int .i64 cnt) := fun w' hb => hb.cell h.head k1
  have HS := Lib.hid (show cnt ≤ 1000000 ∧ xs.length ≤ 4096 from ⟨h.small, h.size⟩)
  clear h hd k0 k1
  go_enter Try.func39, Try.ntmps39
  go_wp2_with fail
  refine region_sch (SB w) [([0, 1, 2, 3, 5, 6, 7, 8], 4), ([9], 10)] [11] (by kernel_rfl) (by kernel_rfl) (by kernel_rfl) (fun _ _ d _ _ h => by cases d <;> exact h) hdr ?_
  (try simp only [Act.put, List.setIfInBounds_toArray, List.set_cons_zero, List.set_cons_succ]); refine sch_seg ?_; simp only [pickOps, List.getElem?_toArray, List.getElem?_cons_zero, List.getElem?_cons_succ]; (repeat (first | go_big_quiet_skip | (go_big_quiet_want; first | (go_big_quiet_op; first | go_big_quiet_on | ((first | with_reducible refine ⟨_, fun _ _ => rfl, ?_⟩); go_big_quiet_on)) | (simp (contextual := true) [go_sem, F0, F1]; with_reducible refine ⟨_, fun _ _ => rfl, ?_⟩; go_big_quiet_on)))); refine wpQuiet_nil ?_
  go_wp2_with fail
  refine HC.out.mono ?_
  rintro e w1 ⟨A', c', rfl, hO, hB⟩
  have HB := Lib.hid (show Below w.heap.size w w1 from hdr.trans hB)
  obtain ⟨g, ex', rfl, hg, hrow, -⟩ := own_full hO h0
  have HR := Lib.hid hrow
  have HG := Lib.hid (show w.heap.size ≤ g from hg)
  clear hO hB hdr hg hrow
  go_wp2_with fail
  refine ⟨SB w, HB.out, fun _ h => h, ?_⟩
  (try simp only [Act.put, List.setIfInBounds_toArray, List.set_cons_zero, List.set_cons_succ]); refine sch_seg ?_; simp only [pickOps, List.getElem?_toArray, List.getElem?_cons_zero, List.getElem?_cons_succ]; (repeat (first | go_big_quiet_skip | (go_big_quiet_want; first | (go_big_quiet_op; first | go_big_quiet_on | ((first | with_reducible refine ⟨_, fun _ _ => rfl, ?_⟩); go_big_quiet_on)) | (simp (contextual := true) [go_sem, F0]; with_reducible refine ⟨_, fun _ _ => rfl, ?_⟩; go_big_quiet_on)))); refine wpQuiet_nil ?_
  go_wp2_with fail
  obtain ⟨w2, HW2⟩ : ∃ w2, Hid (w2 = w1.alloc (.cells #[.slice (some ⟨g, 0, none⟩) xs.length c', .int .i64 cnt] 57)) := ⟨_, Lib.hid rfl⟩
  rw [show w1.alloc (.cells #[.slice (some ⟨g, 0, none⟩) xs.length c', .int .i64 cnt] 57) = w2 from HW2.out.symm]
  have HB2 := Lib.hid (show Below w.heap.size w w2 by rw [HW2.out]; exact HB.out.alloc HB.out.size _)
  have HC2 := Lib.hid (show CellsIs w2 w1.heap.size g c' ex' xs cnt by
    rw [HW2.out]
    exact ⟨Blk.new _ _ _, HR.out.alloc _, by have := HR.out.lt; omega, HS.out.1, HS.out.2⟩)
  refine ⟨SB w, HB2.out, fun _ h => h, ?_⟩
  (try simp only [Act.put]); refine sch_end ?_; simp only [pickOps, List.getElem?_toArray, List.getElem?_cons_zero, List.getElem?_cons_succ]; (repeat (first | go_big_quiet_skip | (go_big_quiet_want; first | (go_big_quiet_op; first | go_big_quiet_on | ((first | with_reducible refine ⟨_, fun _ _ => rfl, ?_⟩); go_big_quiet_on)) | (simp (contextual := true) [go_sem, F0]; with_reducible refine ⟨_, fun _ _ => rfl, ?_⟩; go_big_quiet_on)))); refine wpQuiet_nil ?_
  go_wp2_with fail
  go_ret
  exact ⟨w1.heap.size, g, c', ex', rfl, HC2.out, HB.out.size, HG.out, HB2.out⟩
end Go.Proofs.Ythnhjhlpimgkiaa
namespace Go.Proofs.Ythnhjhlpimgkiaa
open Go.RowKit
theorem row_cell {w : World} {B : Nat} {A : Option Addr} {zs : List Int} (h : Row w B A (ints zs)) (k : Nat) (hk : k < zs.length) : ∃ b off, A = some ⟨b, off, none⟩ ∧ b < B ∧ w.cell? ⟨b, off + k, none⟩ = some (.int .i64 zs[k]) := by
  obtain ⟨b, off, hA, hb, hc⟩ := h.at_ (k := k) (by simpa [ints] using hk)
  exact ⟨b, off, hA, hb, hc k _ (ints_at_ zs k hk)⟩
theorem numbers_any {w : World} {A C : Option Addr} {n c e : Nat} {zs : List Int} (hl : zs.length = n) (hn : n ≤ 65536) (hA : Row w w.heap.size A (ints zs)) (hC : Row w w.heap.size C (ints zs)) :
    Calls Try.prog 24 #[.slice A n c, .slice C n e] w fun e w' => e = .returned (.bool true) ∧ Below w.heap.size w w' := by
  obtain ⟨m, HM⟩ : ∃ m, Hid (m = w.heap.size) := ⟨_, Lib.hid rfl⟩
  rw [← HM.out] at hA hC ⊢
  have HA := Lib.hid hA
  have HC := Lib.hid hC
  have HL := Lib.hid hl
  clear hA hC hl
  go_enter Try.func24, Try.ntmps24
  go_wp2_with fail
  go_loopw [5] (fun vi wr => ∃ k : Nat, k ≤ n ∧ vi = .int .i64 k ∧ Hid (Below m w wr)) (fun vi _ => n - (intOf vi).toNat)
  case atStart => exact ⟨0, by omega, rfl, Lib.hid (by rw [HM.out]; exact Below.refl _ _)⟩
  case round =>
    rcases hrel with ⟨k, hk, rfl, K1⟩
    by_cases hlt : k < n
    · obtain ⟨b, off, rfl, hb, hc⟩ := row_cell (HA.out.below K1.out) k (by rw [HL.out]; exact hlt)
      obtain ⟨b2, off2, rfl, hb2, hc2⟩ := row_cell (HC.out.below K1.out) k (by rw [HL.out]; exact hlt)
      generalize zs[k]'(by rw [HL.out]; exact hlt) = x at hc hc2
      have hws : m ≤ wr.heap.size := by rw [HM.out]; exact K1.out.size
      have F0 : ∀ w', SB wr w' → w'.cell? ⟨b, off + k, none⟩ = some (.int .i64 x) := fun w' h => (Below.cell (p := ⟨b, off + k, none⟩) h (Nat.lt_of_lt_of_le hb hws)).trans hc
      have F1 : ∀ w', SB wr w' → w'.cell? ⟨b2, off2 + k, none⟩ = some (.int .i64 x) := fun w' h => (Below.cell (p := ⟨b2, off2 + k, none⟩) h (Nat.lt_of_lt_of_le hb2 hws)).trans hc2
      clear hc hc2 hws
      go_wp2_with fail
      refine region_sch (SB wr) [] [0, 1, 2, 3, 4, 5, 6, 7, 8] (by kernel_rfl) (by kernel_rfl) (by kernel_rfl) (fun _ _ d _ _ h => by cases d <;> exact h) (Below.refl _ _).drew ?_
      (try simp only [Act.put, List.setIfInBounds_toArray, List.set_cons_zero, List.set_cons_succ]); refine sch_end ?_; simp only [pickOps, List.getElem?_toArray, List.getElem?_cons_zero, List.getElem?_cons_succ]; (repeat (first | go_big_quiet_skip | (go_big_quiet_want; first | (go_big_quiet_op; first | go_big_quiet_on | ((first | with_reducible refine ⟨_, fun _ _ => rfl, ?_⟩); go_big_quiet_on)) | (simp (contextual := true) [go_sem, F0, F1]; with_reducible refine ⟨_, fun _ _ => rfl, ?_⟩; go_big_quiet_on)))); refine wpQuiet_nil ?_
      clear F0 F1
      go_wp2_with fail
      exact ⟨⟨k + 1, by omega, by go_num, Lib.hid K1.out.drew⟩, by simp [intOf]; omega⟩
    · obtain rfl : k = n := by omega
      go_wp2_with fail
      go_ret
      exact ⟨rfl, K1.out⟩
theorem like_any {w : World} {gc gl kc cnt g N : Nat} {ex : List Value} {xs : List Int} (h : CellsIs w gc gl kc ex xs cnt) (hb : Blk w g 2 (ints xs).toArray) (hN : xs.length = N) (h0 : 0 < N) (hc : cnt ≤ 890000) :
    Calls Try.prog 23 #[.pointer (some ⟨gc, 0, none⟩), .slice (some ⟨g, 0, none⟩) N N] w fun e w' => e = .returned (.bool true) ∧ Below w.heap.size w w' := by
  obtain ⟨m, HM⟩ : ∃ m, Hid (m = w.heap.size) := ⟨_, Lib.hid rfl⟩
  have HC := Lib.hid (copy_any h (by omega))
  have HS := Lib.hid h.size
  have HG := Lib.hid (show g < m by rw [HM.out]; exact hb.lt)
  have HB := Lib.hid hb
  have HL := Lib.hid hN
  rw [← HM.out] at HC ⊢
  have h4 : N ≤ 4096 := by rw [← hN]; exact h.size
  clear h hb hN
  go_enter Try.func23, Try.ntmps23
  go_wp2_with (go_at_call 39; refine HC.out.mono ?_; rintro e w1 ⟨gc', gl', kc', ex', rfl, hC1, hg1, hg2, hB1⟩)
  have HC1 := Lib.hid hC1
  have HG1 := Lib.hid hg1
  have HG2 := Lib.hid hg2
  have HB1 := Lib.hid hB1
  clear hC1 hg1 hg2 hB1
  go_wp2_with fail
  go_loopw [6] (fun vi wr => ∃ k : Nat, k ≤ N ∧ vi = .int .i64 k ∧ Hid (Below m w wr) ∧ Hid (CellsIs wr gc' gl' kc' ex' xs (cnt + k))) (fun vi _ => N - (intOf vi).toNat)
  case atStart => exact ⟨0, by omega, rfl, HB1, HC1⟩
  case round =>
    rcases hrel with ⟨k, hk, rfl, K1, K2⟩
    by_cases hlt : k < N
    · have hkl : k < xs.length := by rw [HL.out]; exact hlt
      have hbr := HB.out.below K1.out HG.out
      have hc0 := blk_at hbr k hkl
      have hdr : Below wr.heap.size wr wr.drew := (Below.refl _ wr).drew
      have HLD := Lib.hid (load_any (K2.out.below hdr) k hkl (by omega))
      generalize xs[k] = x at hc0 HLD
      have F0 : ∀ w', SL [gc', gl'] wr w' → w'.cell? ⟨g, k, none⟩ = some (.int .i64 x) := fun w' h => h.cell hbr (by have := HG.out; have := HG1.out; have := HG2.out; simp; omega) hc0
      have HD := Lib.hid (show SL [gc', gl'] wr wr.drew from Mv.of_below hdr (Nat.le_refl _))
      have HW := Lib.hid (show m ≤ wr.heap.size by rw [HM.out]; exact K1.out.size)
      clear hc0 hbr hdr hkl
      go_wp2_with fail
      refine region_sch (SL [gc', gl'] wr) [([0, 1, 3, 4, 5, 6], 2)] [7] (by kernel_rfl) (by kernel_rfl) (by kernel_rfl) (fun _ _ d _ _ h => by cases d <;> exact h) HD.out ?_
      (try simp only [Act.put, List.setIfInBounds_toArray, List.set_cons_zero, List.set_cons_succ]); refine sch_seg ?_; simp only [pickOps, List.getElem?_toArray, List.getElem?_cons_zero, List.getElem?_cons_succ]; (repeat (first | go_big_quiet_skip | (go_big_quiet_want; first | (go_big_quiet_op; first | go_big_quiet_on | ((first | with_reducible refine ⟨_, fun _ _ => rfl, ?_⟩); go_big_quiet_on)) | (simp (contextual := true) [go_sem, F0]; with_reducible refine ⟨_, fun _ _ => rfl, ?_⟩; go_big_quiet_on)))); refine wpQuiet_nil ?_
      go_wp2_with fail
      refine HLD.out.mono ?_
      rintro e w2 ⟨rfl, hC2, hV2⟩
      have HC2 := Lib.hid hC2
      have HV2 := Lib.hid (show SL [gc', gl'] wr w2 from Mv.trans HD.out (hV2.mono (by simp)))
      clear hC2 hV2
      go_wp2_with fail
      refine ⟨SL [gc', gl'] wr, HV2.out, fun _ h => h, ?_⟩
      (try simp only [Act.put]); refine sch_end ?_; simp only [pickOps, List.getElem?_toArray, List.getElem?_cons_zero, List.getElem?_cons_succ]; (repeat (first | go_big_quiet_skip | (go_big_quiet_want; first | (go_big_quiet_op; first | go_big_quiet_on | ((first | with_reducible refine ⟨_, fun _ _ => rfl, ?_⟩); go_big_quiet_on)) | (simp (contextual := true) [go_sem, F0]; with_reducible refine ⟨_, fun _ _ => rfl, ?_⟩; go_big_quiet_on)))); refine wpQuiet_nil ?_
      clear F0
      go_wp2_with fail
      exact ⟨⟨k + 1, by omega, by go_num, Lib.hid (K1.out.trans (Mv.low HV2.out HW.out (by intro b hb; have := HG1.out; have := HG2.out; simp at hb; omega))), HC2⟩, by simp [intOf]; omega⟩
    · obtain rfl : k = N := by omega
      go_wp2_with fail
      go_ret
      exact ⟨rfl, K1.out⟩
end Go.Proofs.Ythnhjhlpimgkiaa
namespace Go.Proofs.Ythnhjhlpimgkiaa
open Go.RowKit
section
variable {P : Program}
theorem run_loadVar_sub (w : World) (g off : Nat) (t ty : TypeId) (X cs : Array Value) (d : TypeDesc) (hg : Blk w g t X) (hs : ∀ j, j < cs.size → X[off + j]? = cs[j]?)
    (hu : P.underlying ty = some d) (hd : (match d with | .struct _ | .array _ _ => true | _ => false) = true) (hi : (P.info? ty).map (·.size) = some cs.size) :
    (loadVar ty ⟨g, off, none⟩).run P w = .ok (.agg cs) w := by
  have hl : (loadCells ⟨g, off, none⟩ cs.toList.length).run P w = .ok cs.toList.toArray w :=
    run_loadCells_list (P := P) w ⟨g, off, none⟩ cs.toList (fun j v hv => by
      have hj : j < cs.size := by have := (List.getElem?_eq_some_iff.1 hv).1; simpa using this
      rw [Addr.add_lit, hg.cell, hs j hj]
      simpa using hv)
  cases hq : P.info? ty with
  | none => simp [hq] at hi
  | some i =>
    have hsz : i.size = cs.size := by simpa [hq] using hi
    have hagg : (isAgg ty).run P w = .ok true w := by
      unfold isAgg
      rw [Sem.run_bind, run_underlying hu w]
      cases d <;> simp_all
    simp only [Array.length_toList, Array.toArray_toList] at hl
    simp [loadVar, Sem.run_bind, hagg, sizeOf, typeInfo, hq, hsz, hl]
theorem wpList_load_subW {ops : Array Oper} {rest : List Oper} {o : Oper} {a : Act} {w : World} {Q : Exit → Act → World → Prop} (hw : Region.wanted o (yielded ops a.tmps) = true) (ty : TypeId) (x : Operand) (ho : o.op = .load ty x)
    (g off : Nat) (hx : a.eval x = .pointer (some ⟨g, off, none⟩)) (t : TypeId) (X cs : Array Value) (d : TypeDesc) (hg : Blk w g t X) (hs : ∀ j, j < cs.size → X[off + j]? = cs[j]?)
    (hu : P.underlying ty = some d) (hd : (match d with | .struct _ | .array _ _ => true | _ => false) = true) (hi : (P.info? ty).map (·.size) = some cs.size)
    (h : wpList P ops Q rest (a.put o.dst (.agg cs)) w) : wpList P ops Q (o :: rest) a w :=
  wpList_wanted hw fun _ hK => by
    unfold Oper.wp execOp
    simp only [ho, hx, Instr.loadAt, Instr.sureAddr, Sem.run_bind, Sem.run_pure, Result.andThen_ok, run_loadVar_sub w g off t ty X cs d hg hs hu hd hi]
    exact hK _ _ h
/-- What a block holds behind a struct was written into it. -/
def splice (X : Array Value) (off : Nat) (cs : Array Value) : Array Value := (X.toList.take off ++ cs.toList ++ X.toList.drop (off + cs.size)).toArray
theorem run_storeVar_sub (w : World) (g off : Nat) (t ty : TypeId) (X cs : Array Value) (hg : Blk w g t X) (hi : (P.info? ty).map (·.size) = some cs.size) (ho : off + cs.size ≤ X.size) (h1 : cs.all (·.oneCell') = true) :
    (storeVar ty ⟨g, off, none⟩ (.agg cs)).run P w = .ok () (w.setRow g (splice X off cs)) := by
  have := run_storeCells_at (P := P) g off t cs.toList 0 X w hg (by simp; omega) (fun v hv => (Array.all_eq_true_iff_forall_mem.1 h1) v (by simpa using hv))
  cases hq : P.info? ty with
  | none => simp [hq] at hi
  | some i =>
    have hs : cs.size = i.size := by simp [hq] at hi; omega
    unfold splice
    simp [storeVar, sizeOf, typeInfo, hq, Value.cells, hs, this]
theorem wpList_store_sub {ops : Array Oper} {rest : List Oper} {o : Oper} {a : Act} {w : World} {Q : Exit → Act → World → Prop} (hgd : o.guard = none) (ty : TypeId) (x y : Operand) (ho : o.op = .store ty x y)
    (g off : Nat) (cs : Array Value) (hx : a.eval x = .pointer (some ⟨g, off, none⟩)) (hy : a.eval y = .agg cs) (t : TypeId) (X : Array Value) (hg : Blk w g t X) (hi : (P.info? ty).map (·.size) = some cs.size)
    (hs : off + cs.size ≤ X.size) (h1 : cs.all (·.oneCell') = true)
    (h : wpList P ops Q rest (a.put o.dst undef) (w.setRow g (splice X off cs))) : wpList P ops Q (o :: rest) a w :=
  wpList_plain hgd fun _ hK => by
    unfold Oper.wp execOp
    simp only [ho, hx, hy, Instr.storeAt, Instr.sureAddr, Sem.run_bind, Sem.run_pure, Result.andThen_ok, run_storeVar_sub w g off t ty X cs hg hi hs h1]
    exact hK _ _ h
end
/-- The reference's task and its two slices. -/
abbrev Ru := Rt × Value × Value
def ruCells (x : Ru) : List Value := (rtArr x.1 x.2.1 x.2.2).toList
theorem ruCells_len (x : Ru) : (ruCells x).length = 10 := rfl
theorem ru_len (l : List Ru) : (l.flatMap ruCells).length = l.length * 10 := by
  induction l with
  | nil => rfl
  | cons a l ih => rw [List.flatMap_cons, List.length_append, ih, ruCells_len, List.length_cons]; omega
theorem ru_at (l : List Ru) (ex : List Value) (j r : Nat) (hj : j < l.length) (hr : r < 10) : (l.flatMap ruCells ++ ex).toArray[j * 10 + r]? = (rtArr l[j].1 l[j].2.1 l[j].2.2)[r]? := by
  have hl := ru_len l
  rw [List.getElem?_toArray, List.getElem?_append_left (by rw [hl]; omega)]
  have := flat_at ruCells_len l j r l[j] ((ruCells l[j])[r]'(by rw [ruCells_len]; exact hr)) (List.getElem?_eq_getElem hj) (List.getElem?_eq_getElem _)
  rw [this]
  unfold ruCells
  rw [Array.getElem_toList]
  exact (Array.getElem?_eq_getElem (by have := ruCells_len l[j]; unfold ruCells at this; simpa using (show r < (rtArr l[j].1 l[j].2.1 l[j].2.2).toList.length by rw [this]; exact hr))).symm
theorem ru_set (l : List Ru) (ex : List Value) (j : Nat) (x : Ru) (hj : j < l.length) : splice (l.flatMap ruCells ++ ex).toArray (j * 10) (rtArr x.1 x.2.1 x.2.2) = ((l.set j x).flatMap ruCells ++ ex).toArray := by
  unfold splice
  congr 1
  have hsz : (rtArr x.1 x.2.1 x.2.2).size = 10 := rfl
  rw [hsz]
  induction l generalizing j with
  | nil => simp at hj
  | cons a l ih =>
    cases j with
    | zero =>
      simp only [List.flatMap_cons, List.set_cons_zero, Nat.zero_mul, Nat.zero_add, List.take_zero, List.nil_append, List.append_assoc]
      have h10 : (ruCells a).length = 10 := ruCells_len a
      rw [List.drop_append_of_le_length (by omega), List.drop_eq_nil_of_le (by omega), List.nil_append]
      rfl
    | succ j =>
      have h10 : (ruCells a).length = 10 := ruCells_len a
      have := ih j (by simpa using hj)
      simp only [List.flatMap_cons, List.set_cons_succ, List.append_assoc] at this ⊢
      rw [List.take_append, List.drop_append]
      have e1 : (j + 1) * 10 - (ruCells a).length = j * 10 := by omega
      have e2 : (j + 1) * 10 + 10 - (ruCells a).length = j * 10 + 10 := by omega
      rw [e1, e2, List.take_of_length_le (by omega), List.drop_eq_nil_of_le (by omega), List.nil_append, List.append_assoc]
      rw [← this]
end Go.Proofs.Ythnhjhlpimgkiaa
namespace Go.Proofs.Ythnhjhlpimgkiaa
open Go.RowKit
theorem mod_any (x : Int) (n : Nat) (h0 : 0 < n) (hn : n ≤ 1000) (w : World) : Calls Try.prog 20 #[.int .i64 x, .int .i64 n] w fun e w' => ∃ j : Nat, j < n ∧ e = .returned (.int .i64 j) ∧ w = w' := by
  obtain ⟨r, hr⟩ : ∃ r, x.tmod n = r := ⟨_, rfl⟩
  have b1 : r < n := by rw [← hr]; exact Int.tmod_lt_of_pos x (by omega)
  have b2 : -(n : Int) < r := by rw [← hr]; exact Int.lt_tmod_of_pos x (by omega)
  have hz : ((n : Int) == 0) = false := by simp; omega
  by_cases hs : r < 0
  · go_enter Try.func20, Try.ntmps20
    go_wp2
    go_ret
    exact ⟨(r + n).toNat, by omega, by rw [show (((r + n).toNat : Nat) : Int) = r + n by omega]; rfl, rfl⟩
  · go_enter Try.func20, Try.ntmps20
    go_wp2
    go_ret
    exact ⟨r.toNat, by omega, by rw [show ((r.toNat : Nat) : Int) = r by omega]; rfl, rfl⟩
end Go.Proofs.Ythnhjhlpimgkiaa
namespace Go.Proofs.Ythnhjhlpimgkiaa
open Go.RowKit
/-- A task as a value. -/
def ptr (gt : Nat) : Value := .pointer (some ⟨gt, 0, none⟩)
/-- Tags: a task's blocks bear its number; 100: never written any more; 101: the law's own. -/
structure SI (w : World) (f : Nat → Nat) (g gc gl gr kc size : Nat) (xs : List Int) (cnt n : Nat) (gts : List Nat) (Ps : List Pt) (Us : List Ru) (k : Nat) : Prop where
  n8 : n ≤ 8
  lg : gts.length = n
  lp : Ps.length = n
  lu : Us.length = n
  task : ∀ (j : Nat) (hj : j < n), TI w (fun b => f b = j) (gts[j]'(by omega)) gr gc gl kc [] size xs cnt (Ps[j]'(by omega))
  rel : ∀ (j : Nat) (hj : j < n), Rel (Ps[j]'(by omega)) (Us[j]'(by omega)).1
  buf : ∀ (j : Nat) (hj : j < n), RowQ w (fun b => f b = 100) (Us[j]'(by omega)).2.1 (Us[j]'(by omega)).1.buf
  got : ∀ (j : Nat) (hj : j < n), RowQ w (fun b => f b = 100) (Us[j]'(by omega)).2.2 (Us[j]'(by omega)).1.got
  row : Blk w g 2 (ints xs).toArray
  tags : f g = 101 ∧ f gc = 101 ∧ f gl = 101 ∧ f gr = 101 ∧ g ≠ gc ∧ g ≠ gl ∧ g ≠ gr
  xok : XOk xs
  big : ∀ (j : Nat) (hj : j < n), (Ps[j]'(by omega)).steps ≤ k
  few : cnt ≤ 100 + k
/-- New blocks bear the tag t. -/
def tagged (f : Nat → Nat) (s t : Nat) (b : Nat) : Nat := if b < s then f b else t
theorem TI.keep {w : World} {Q Q' : Nat → Prop} {gt gr gc gl kc size cnt : Nat} {ex : List Value} {xs : List Int} {P : Pt} (I : TI w Q gt gr gc gl kc ex size xs cnt P) (h : ∀ b, b < w.heap.size → Q b → Q' b) (hf : ¬ Q' gr ∧ ¬ Q' gc ∧ ¬ Q' gl) : TI w Q' gt gr gc gl kc ex size xs cnt P := by
  obtain ⟨A, c, G, m, e, I⟩ := I
  exact ⟨A, c, G, m, e, I.mem, I.buf, I.got, fun hd b hb => ⟨h b ((I.buf hd).lt b hb).2 (I.bufQ hd b hb).1, (I.bufQ hd b hb).2⟩, fun b hb => ⟨h b (I.got.lt b hb).2 (I.gotQ b hb).1, (I.gotQ b hb).2⟩, h _ I.mem.task.lt I.gtQ, hf, I.few, I.hot⟩
theorem TI.cells {w : World} {Q : Nat → Prop} {gt gr gc gl kc size cnt : Nat} {ex : List Value} {xs : List Int} {P : Pt} (I : TI w Q gt gr gc gl kc ex size xs cnt P) : CellsIs w gc gl kc ex xs cnt := by
  obtain ⟨A, c, G, m, e, I⟩ := I
  exact I.mem.cells
theorem TI.fits {w : World} {Q : Nat → Prop} {gt gr gc gl kc size cnt : Nat} {ex : List Value} {xs : List Int} {P : Pt} (I : TI w Q gt gr gc gl kc ex size xs cnt P) : (size = 2 ∨ size = 4 ∨ size = 8) ∧ size + 3 ≤ xs.length := by
  obtain ⟨A, c, G, m, e, I⟩ := I
  exact I.mem.fits
theorem TI.own {w : World} {Q : Nat → Prop} {gt gr gc gl kc size cnt : Nat} {ex : List Value} {xs : List Int} {P : Pt} (I : TI w Q gt gr gc gl kc ex size xs cnt P) : Q gt ∧ ¬ Q gr ∧ ¬ Q gc ∧ ¬ Q gl := by
  obtain ⟨A, c, G, m, e, I⟩ := I
  exact ⟨I.gtQ, I.far⟩
/-- Others wrote, and the cells may be other ones. -/
theorem TI.other {w w' : World} {Q : Nat → Prop} {L : List Nat} {gt gr gc gl kc size cnt cnt' : Nat} {ex : List Value} {xs xs' : List Int} {P : Pt} (I : TI w Q gt gr gc gl kc ex size xs cnt P) (hm : Mv L w w') (hL : ∀ b ∈ L, b = gc ∨ b = gl ∨ (¬ Q b ∧ b ≠ gr)) (hc : CellsIs w' gc gl kc ex xs' cnt') (hx : xs'.length = xs.length) (hf : cnt' < 900000) :
    TI w' Q gt gr gc gl kc ex size xs' cnt' P := by
  obtain ⟨A, c, G, m, e, I⟩ := I
  have no : ∀ b, Q b → b ∉ L := by
    intro b hb h
    rcases hL b h with rfl | rfl | h
    · exact I.far.2.1 hb
    · exact I.far.2.2 hb
    · exact h.1 hb
  have ngr : gr ∉ L := by
    intro h
    rcases hL gr h with h | h | h
    · exact I.mem.n2.1 h
    · exact I.mem.n2.2 h
    · exact h.2 rfl
  exact ⟨A, c, G, m, e, ⟨hc, hm.blk I.mem.ring ngr, hm.blk I.mem.task (no gt I.gtQ), I.mem.n1, I.mem.n2, ⟨I.mem.fits.1, by rw [hx]; exact I.mem.fits.2⟩, hf, I.mem.ok⟩, fun hd => own_mv (I.buf hd) hm (fun b hb => no b (I.bufQ hd b hb).1), own_mv I.got hm (fun b hb => no b (I.gotQ b hb).1), I.bufQ, I.gotQ, I.gtQ, I.far, I.few, I.hot⟩
theorem TI.few {w : World} {Q : Nat → Prop} {gt gr gc gl kc size cnt : Nat} {ex : List Value} {xs : List Int} {P : Pt} (I : TI w Q gt gr gc gl kc ex size xs cnt P) : cnt < 900000 := by
  obtain ⟨A, c, G, m, e, I⟩ := I
  exact I.mem.few
theorem acc_xok {size : Nat} {xs : List Int} {P : Pt} {a : Ac} (h : XOk xs) (hl : 2 ≤ xs.length) : XOk (acc size xs P a).1 := by
  have s0 : ∀ v : Nat, v < 4294967296 → XOk (xs.set 0 (v : Int)) := by
    intro v hv
    have e0 : (xs.set 0 (v : Int)).getD 0 0 = v := by
      rw [getD_at _ 0 (by simp; omega)]
      simp
    have e1 : (xs.set 0 (v : Int)).getD 1 0 = xs.getD 1 0 := getD_set _ _ _ _ (by omega)
    unfold XOk
    rw [e0, e1]
    exact ⟨by omega, by omega, h.2.2.1, h.2.2.2⟩
  have s1 : ∀ v : Nat, v < 4294967296 → XOk (xs.set 1 (v : Int)) := by
    intro v hv
    have e0 : (xs.set 1 (v : Int)).getD 1 0 = v := by
      rw [getD_at _ 1 (by simp; omega)]
      simp
    have e1 : (xs.set 1 (v : Int)).getD 0 0 = xs.getD 0 0 := getD_set _ _ _ _ (by omega)
    unfold XOk
    rw [e0, e1]
    exact ⟨h.1, h.2.1, by omega, by omega⟩
  have sn : ∀ (i : Nat) (x : Int), 2 ≤ i → XOk (xs.set i x) := by
    intro i x hi
    unfold XOk
    rw [getD_set _ _ _ _ (by omega), getD_set _ _ _ _ (by omega)]
    exact h
  cases a <;> simp only [acc] <;> (repeat' split) <;> first | exact h | exact s0 _ (u_lt _) | exact s1 _ (u_lt _) | exact sn _ _ (by omega)
section
variable {w w' : World} {f : Nat → Nat} {g gc gl gr kc size cnt n k : Nat} {xs : List Int} {gts : List Nat} {Ps : List Pt} {Us : List Ru}
theorem RowQ.below {w w' : World} {q : Nat → Prop} {V : Value} {zs : List Int} (h : RowQ w q V zs) (hb : Below w.heap.size w w') : RowQ w' q V zs := h.far (Mv.of_below hb (Nat.le_refl _) : Mv [] w w') (by simp)
theorem SI.below (h : SI w f g gc gl gr kc size xs cnt n gts Ps Us k) (hb : Below w.heap.size w w') : SI w' f g gc gl gr kc size xs cnt n gts Ps Us k := by
  refine ⟨h.n8, h.lg, h.lp, h.lu, fun j hj => ?_, h.rel, fun j hj => (h.buf j hj).below hb, fun j hj => (h.got j hj).below hb, h.row.below hb h.row.lt, h.tags, h.xok, h.big, h.few⟩
  exact (h.task j hj).other (Mv.of_below hb (Nat.le_refl _) : Mv [] w w') (by simp) ((h.task j hj).cells.below hb) rfl (h.task j hj).few
/-- One access of one task, both ways. -/
theorem SI.step {w1 w2 w3 : World} {L : List Nat} {ub : Nat} {cs : Array Value} (h : SI w f g gc gl gr kc size xs cnt n gts Ps Us k) (j : Nat) (hj : j < n) {xs' : List Int} {P' : Pt} {R' : Rt} {B' G' : Value}
    (hk : k ≤ 1000) (hP : P'.steps ≤ k + 1) (hxl : xs'.length = xs.length) (hx : XOk xs')
    (h1 : TI w1 (Qn (fun b => f b = j) w) (gts[j]'(by have := h.lg; omega)) gr gc gl kc [] size xs' (cnt + 1) P') (hm1 : Mv L w w1) (hL : ∀ b ∈ L, b = gc ∨ b = gl ∨ f b = j)
    (hrel : Rel P' R') (hB : RowQ w2 (Qn (fun b => tagged f w.heap.size j b = 100) w1) B' R'.buf) (hG : RowQ w2 (Qn (fun b => tagged f w.heap.size j b = 100) w1) G' R'.got) (hrow : Blk w2 g 2 (ints xs').toArray) (hm2 : Mv [g] w1 w2)
    (hu : f ub = 101 ∧ ub < w.heap.size ∧ ub ≠ g ∧ ub ≠ gc ∧ ub ≠ gl ∧ ub ≠ gr) (h3 : w3 = w2.setRow ub cs) :
    SI w3 (tagged (tagged f w.heap.size j) w1.heap.size 100) g gc gl gr kc size xs' (cnt + 1) n gts (Ps.set j P') (Us.set j (R', B', G')) (k + 1) := by
  subst h3
  have hlg := h.lg
  have hlp := h.lp
  have hlu := h.lu
  have hm3 : Mv [ub] w2 (w2.setRow ub cs) := mv_setRow _ _ _
  have hsz1 := hm1.size
  have hsz2 := hm2.size
  obtain ⟨t1, t2, t3, t4, t5, t6, t7⟩ := h.tags
  have hgl := h.row.lt
  have szs := (h.task j hj).size
  have tg : ∀ b, b < w.heap.size → tagged (tagged f w.heap.size j) w1.heap.size 100 b = f b := by
    intro b hb
    unfold tagged
    rw [if_pos (by omega), if_pos hb]
  have far : ∀ i, i < n → ¬ (tagged (tagged f w.heap.size j) w1.heap.size 100 gr = i) ∧ ¬ (tagged (tagged f w.heap.size j) w1.heap.size 100 gc = i) ∧ ¬ (tagged (tagged f w.heap.size j) w1.heap.size 100 gl = i) := by
    intro i hi
    have := h.n8
    rw [tg gr szs.2.1, tg gc szs.2.2.1, tg gl szs.2.2.2]
    omega
  have hc3 : CellsIs (w2.setRow ub cs) gc gl kc [] xs' (cnt + 1) := (h1.cells.mv hm2 (by simp; omega) (by simp; omega)).mv hm3 (by simp; omega) (by simp; omega)
  have hm13 : Mv [g, ub] w1 (w2.setRow ub cs) := (hm2.mono (by simp)).trans (hm3.mono (by simp))
  have row3 : ∀ (V : Value) (zs : List Int), RowQ w2 (fun b => tagged (tagged f w.heap.size j) w1.heap.size 100 b = 100) V zs → RowQ (w2.setRow ub cs) (fun b => tagged (tagged f w.heap.size j) w1.heap.size 100 b = 100) V zs := by
    intro V zs hV
    refine hV.far hm3 ?_
    intro b hb
    rw [List.mem_singleton] at hb
    subst hb
    rw [tg _ hu.2.1, hu.1]
    omega
  have new3 : ∀ (V : Value) (zs : List Int), RowQ w2 (Qn (fun b => tagged f w.heap.size j b = 100) w1) V zs → RowQ (w2.setRow ub cs) (fun b => tagged (tagged f w.heap.size j) w1.heap.size 100 b = 100) V zs := by
    intro V zs hV
    refine row3 V zs (hV.mono ?_)
    intro b _ hb
    rcases hb with ⟨hb, hlt⟩ | hb
    · unfold tagged at hb ⊢
      rw [if_pos hlt]
      exact hb
    · unfold tagged
      rw [if_neg (by omega)]
  have old3 : ∀ (V : Value) (zs : List Int), RowQ w (fun b => f b = 100) V zs → RowQ (w2.setRow ub cs) (fun b => tagged (tagged f w.heap.size j) w1.heap.size 100 b = 100) V zs := by
    intro V zs hV
    refine row3 V zs ?_
    have e1 : RowQ w1 (fun b => f b = 100 ∧ b < w.heap.size) V zs := hV.old hm1 (by
      intro b hb hf
      rcases hL b hb with rfl | rfl | h'
      · omega
      · omega
      · have := h.n8
        omega)
    have e2 := e1.old hm2 (by
      intro b hb hf
      rw [List.mem_singleton] at hb
      subst hb
      omega)
    exact e2.mono (fun b _ hb => by rw [tg b hb.1.2]; exact hb.1.1)
  refine ⟨h.n8, hlg, by rw [List.length_set]; exact hlp, by rw [List.length_set]; exact hlu, fun i hi => ?_, fun i hi => ?_, fun i hi => ?_, fun i hi => ?_, hrow.farRow (by omega) _, ⟨by rw [tg g hgl]; exact t1, by rw [tg gc szs.2.2.1]; exact t2, by rw [tg gl szs.2.2.2]; exact t3, by rw [tg gr szs.2.1]; exact t4, t5, t6, t7⟩, hx, fun i hi => ?_, by have := h.few; omega⟩
  · by_cases e : i = j
    · subst e
      rw [List.getElem_set_self]
      have q1 := h1.keep (Q' := fun b => tagged (tagged f w.heap.size i) w1.heap.size 100 b = i) (by
        intro b hb hq
        rcases hq with ⟨hq, hlt⟩ | hq
        · show tagged (tagged f w.heap.size i) w1.heap.size 100 b = i
          rw [tg b hlt]
          exact hq
        · show tagged (tagged f w.heap.size i) w1.heap.size 100 b = i
          unfold tagged
          rw [if_pos hb, if_neg (by omega)]) (far i hi)
      refine q1.other hm13 ?_ hc3 rfl (by have := h.few; omega)
      intro b hb
      right; right
      have := h.n8
      simp only [List.mem_cons, List.not_mem_nil, or_false] at hb
      rcases hb with rfl | rfl
      · exact ⟨by rw [tg _ hgl]; omega, by omega⟩
      · exact ⟨by rw [tg _ hu.2.1]; omega, by omega⟩
    · rw [List.getElem_set_ne (Ne.symm e)]
      have q1 := (h.task i hi).keep (Q' := fun b => tagged (tagged f w.heap.size j) w1.heap.size 100 b = i) (by
        intro b hb hq
        show tagged (tagged f w.heap.size j) w1.heap.size 100 b = i
        rw [tg b hb]
        exact hq) (far i hi)
      have q2 := q1.other hm1 (xs' := xs') (cnt' := cnt + 1) (by
        intro b hb
        rcases hL b hb with h' | h' | h'
        · exact .inl h'
        · exact .inr (.inl h')
        · have := h.n8
          refine .inr (.inr ⟨?_, by rintro rfl; omega⟩)
          show ¬ tagged (tagged f w.heap.size j) w1.heap.size 100 b = i
          unfold tagged
          repeat' split
          all_goals omega) h1.cells hxl (by have := h.few; omega)
      refine q2.other hm13 ?_ hc3 rfl (by have := h.few; omega)
      intro b hb
      right; right
      have := h.n8
      simp only [List.mem_cons, List.not_mem_nil, or_false] at hb
      rcases hb with rfl | rfl
      · exact ⟨by rw [tg _ hgl]; omega, by omega⟩
      · exact ⟨by rw [tg _ hu.2.1]; omega, by omega⟩
  · by_cases e : i = j
    · subst e
      simp only [List.getElem_set_self]
      exact hrel
    · simp only [List.getElem_set_ne (Ne.symm e)]
      exact h.rel i hi
  · by_cases e : i = j
    · subst e
      simp only [List.getElem_set_self]
      exact new3 _ _ hB
    · simp only [List.getElem_set_ne (Ne.symm e)]
      exact old3 _ _ (h.buf i hi)
  · by_cases e : i = j
    · subst e
      simp only [List.getElem_set_self]
      exact new3 _ _ hG
    · simp only [List.getElem_set_ne (Ne.symm e)]
      exact old3 _ _ (h.got i hi)
  · by_cases e : i = j
    · subst e
      simp only [List.getElem_set_self]
      exact hP
    · simp only [List.getElem_set_ne (Ne.symm e)]
      have := h.big i hi
      omega
end
end Go.Proofs.Ythnhjhlpimgkiaa
namespace Go.Proofs.Ythnhjhlpimgkiaa
open Go.RowKit
/-- Whose block: a task's, or nobody's. -/
def tagS (gts : List Nat) (b : Nat) : Nat := if b ∈ gts then gts.idxOf b else 101
theorem tagS_at {gts : List Nat} (h : gts.Nodup) (j : Nat) (hj : j < gts.length) : tagS gts gts[j] = j := by
  unfold tagS
  rw [if_pos (List.getElem_mem hj)]
  exact h.idxOf_getElem j hj
theorem tagS_out {gts : List Nat} {b : Nat} (h : b ∉ gts) : tagS gts b = 101 := if_neg h
theorem rel0 (k g : Int) : Rel (actP k g) (actR k g) := by
  unfold actP actR
  by_cases h0 : k = 0
  · rw [if_pos h0, if_pos h0]
    by_cases hg : g < 1
    · refine ⟨fun h => ?_, ?_, ?_, ?_, ?_, ?_, ?_, ?_, ?_⟩ <;> simp [rput, hg, rt0, AtIs] at *
    · refine ⟨fun h => ?_, ?_, ?_, ?_, ?_, ?_, ?_, ?_, ?_⟩ <;> simp [rput, hg, rt0, AtIs, Ac.kd, Ac.pl, Ac.hot] at *
  · by_cases h1 : k = 1
    · rw [if_neg h0, if_pos h1, if_neg h0, if_pos h1]
      by_cases hg : g < 1
      · refine ⟨fun h => ?_, ?_, ?_, ?_, ?_, ?_, ?_, ?_, ?_⟩ <;> simp [rput, hg, rt0, AtIs] at *
      · refine ⟨fun h => ?_, ?_, ?_, ?_, ?_, ?_, ?_, ?_, ?_⟩ <;> simp [rput, hg, rt0, AtIs, Ac.kd, Ac.pl, Ac.hot] at *
    · by_cases h2 : k = 2
      · rw [if_neg h0, if_neg h1, if_pos h2, if_neg h0, if_neg h1, if_pos h2]
        refine ⟨fun h => ?_, ?_, ?_, ?_, ?_, ?_, ?_, ?_, ?_⟩ <;> simp [rt0, AtIs, Ac.kd, Ac.pl, Ac.hot]
      · rw [if_neg h0, if_neg h1, if_neg h2, if_neg h0, if_neg h1, if_neg h2]
        refine ⟨fun h => ?_, ?_, ?_, ?_, ?_, ?_, ?_, ?_, ?_⟩ <;> simp [rt0, AtIs, Ac.kd, Ac.pl, Ac.hot]
theorem actR_nil (k g : Int) : (actR k g).buf = [] ∧ (actR k g).got = [] := by
  unfold actR rput
  repeat' split
  all_goals exact ⟨rfl, rfl⟩
/-- The tasks that begin, in plain. -/
def begP (acts : List (Int × Int)) : List Pt := acts.map fun a => actP a.1 a.2
def begU (acts : List (Int × Int)) : List Ru := acts.map fun a => (actR a.1 a.2, .slice none 0 0, .slice none 0 0)
theorem SI.start {w : World} {g gc gl gr kc size cnt n : Nat} {xs : List Int} {gts : List Nat} {acts : List (Int × Int)} (h8 : n ≤ 8) (hg : gts.length = n) (ha : acts.length = n) (hn : gts.Nodup)
    (hM : ∀ (j : Nat) (hj : j < n), M14 w (gts[j]'(by omega)) gr gc gl kc [] size xs cnt (tk (actP (acts[j]'(by omega)).1 (acts[j]'(by omega)).2) none 0 none 0 0))
    (hrow : Blk w g 2 (ints xs).toArray) (hout : g ∉ gts ∧ gc ∉ gts ∧ gl ∉ gts ∧ gr ∉ gts ∧ g ≠ gc ∧ g ≠ gl ∧ g ≠ gr) (hx : XOk xs) (hc : cnt ≤ 100) :
    SI w (tagS gts) g gc gl gr kc size xs cnt n gts (begP acts) (begU acts) 0 := by
  obtain ⟨o1, o2, o3, o4, o5, o6, o7⟩ := hout
  refine ⟨h8, hg, by simp [begP, ha], by simp [begU, ha], fun j hj => ?_, fun j hj => ?_, fun j hj => ?_, fun j hj => ?_, hrow, ⟨tagS_out o1, tagS_out o2, tagS_out o3, tagS_out o4, o5, o6, o7⟩, hx, fun j hj => ?_, by omega⟩
  · simp only [begP, List.getElem_map]
    refine ti_zero (hM j hj) (actP_bs _ _).1 (actP_bs _ _).2.1 (tagS_at hn j (by omega)) ?_
    rw [tagS_out o2, tagS_out o3, tagS_out o4]
    omega
  · simp only [begP, begU, List.getElem_map]
    exact rel0 _ _
  · simp only [begU, List.getElem_map, (actR_nil _ _).1]
    exact RowQ.nil _ _
  · simp only [begU, List.getElem_map, (actR_nil _ _).2]
    exact RowQ.nil _ _
  · simp only [begP, List.getElem_map, (actP_bs _ _).2.2]
    exact Nat.le_refl _
end Go.Proofs.Ythnhjhlpimgkiaa
namespace Go.Proofs.Ythnhjhlpimgkiaa
open Go.RowKit
/-- An act as cells. -/
def actVals (a : Int × Int) : List Value := [.int .i64 a.1, .int .i64 a.2]
theorem actVals_len (a : Int × Int) : (actVals a).length = 2 := rfl
theorem act_cell {w : World} {B : Nat} {A : Option Addr} {l : List (Int × Int)} (h : Row w B A (l.flatMap actVals)) (k : Nat) (hk : k < l.length) : ∃ b off, A = some ⟨b, off, none⟩ ∧ b < B ∧ w.cell? ⟨b, off + k * 2, none⟩ = some (.int .i64 l[k].1) ∧ w.cell? ⟨b, off + k * 2 + 1, none⟩ = some (.int .i64 l[k].2) := by
  have hl : k * 2 < (l.flatMap actVals).length := by
    have : (l.flatMap actVals).length = l.length * 2 := by
      clear h hk
      induction l with
      | nil => rfl
      | cons a l ih => rw [List.flatMap_cons, List.length_append, ih, actVals_len, List.length_cons]; omega
    omega
  obtain ⟨b, off, hA, hb, hc⟩ := h.at_ hl
  refine ⟨b, off, hA, hb, hc _ _ ?_, ?_⟩
  · exact flat_at actVals_len l k 0 l[k] _ (List.getElem?_eq_getElem hk) rfl
  · have := hc (k * 2 + 1) _ (flat_at actVals_len l k 1 l[k] _ (List.getElem?_eq_getElem hk) rfl)
    rw [← Nat.add_assoc] at this
    exact this
theorem Try.info27 : (Try.prog.info? 27).map (fun i => (i.zero, i.size, i.bytes)) = some (some (.pointer none), 1, 8) := by kernel_rfl
theorem Try.info44 : (Try.prog.info? 44).map (fun i => (i.zero, i.size, i.bytes)) = some (some (.agg #[.int .i64 0, .int .u8 0, .int .i64 0, .int .i64 0, .int .i64 0, .int .i64 0, .int .i64 0, .slice none 0 0, .slice none 0 0, .int .i64 0]), 10, 112) := by kernel_rfl
theorem cell_new2 (w : World) (o : Obj) (v : Value) (t : TypeId) : ∀ (j : Nat) (u : Value), [v][j]? = some u → ((w.alloc o).alloc (.cells #[v] t)).cell? ((⟨w.heap.size + 1, 0, none⟩ : Addr).add j) = some u := by
  intro j u hu
  have h := Blk.new (w.alloc o) t #[v]
  rw [World.size_alloc] at h
  rw [Addr.add_lit, Nat.zero_add, h.cell j]
  simpa using hu
theorem cell_newR (w : World) (l : List Value) (t : TypeId) : ∀ (j : Nat) (u : Value), l[j]? = some u → (w.alloc (.cells l.toArray t)).cell? ((⟨w.heap.size, 0, none⟩ : Addr).add j) = some u := by
  intro j u hu
  rw [Addr.add_lit, Nat.zero_add, (Blk.new w t l.toArray).cell j]
  simpa using hu
theorem ap_ne {G I : Option Addr} (h : Apart G I) : ob G = none ∨ ob G ≠ ob I := by
  cases hG : ob G with
  | none => exact .inl rfl
  | some k => exact .inr (fun e => h k hG e.symm)
/-- What the first loop has made. -/
structure B1 (w wr : World) (m B0 g gc gl gr kc size : Nat) (xs : List Int) (cnt : Nat) (acts : List (Int × Int)) (k : Nat) (gts : List Nat) (A : Option Addr) (c : Nat) (B : Option Addr) (d : Nat) : Prop where
  below : Below m w wr
  base : B0 ≤ wr.heap.size ∧ m ≤ B0 ∧ g < B0 ∧ gc < B0 ∧ gl < B0 ∧ gr < B0
  ring : B14 wr gr gc gl kc [] size xs cnt
  row : Blk wr g 2 (ints xs).toArray
  len : gts.length = k ∧ k ≤ acts.length
  nodup : gts.Nodup
  mem : ∀ (j : Nat) (hj : j < k), M14 wr (gts[j]'(by omega)) gr gc gl kc [] size xs cnt (tk (actP (acts[j]'(by omega)).1 (acts[j]'(by omega)).2) none 0 none 0 0)
  low : ∀ x ∈ gts, B0 ≤ x ∧ x < wr.heap.size
  t : Own wr B0 27 1 A k c (gts.map ptr)
  u : Own wr B0 44 10 B k d ((begU (acts.take k)).flatMap ruCells)
  far : ∀ x ∈ gts, ob A ≠ some x ∧ ob B ≠ some x
  apart : Apart A B
theorem begU_take (acts : List (Int × Int)) (k : Nat) (hk : k < acts.length) : begU (acts.take (k + 1)) = begU (acts.take k) ++ [(actR acts[k].1 acts[k].2, .slice none 0 0, .slice none 0 0)] := by
  unfold begU
  rw [List.take_succ_eq_append_getElem hk, List.map_append]
  rfl
theorem b1_next {w wr w4 w6 w7 : World} {m B0 g gc gl gr kc size cnt k gt c c' d d' : Nat} {xs : List Int} {acts : List (Int × Int)} {gts : List Nat} {A A' B B' : Option Addr} {X Y Z : Obj} {RA : List Value} (K : B1 w wr m B0 g gc gl gr kc size xs cnt acts k gts A c B d) (hk : k < acts.length)
    (hgt : wr.heap.size ≤ gt) (hM4 : M14 w4 gt gr gc gl kc [] size xs cnt (tk (actP acts[k].1 acts[k].2) none 0 none 0 0)) (hb4 : Below wr.heap.size wr w4)
    (hO6 : Own w6 B0 27 1 A' (k + 1) c' (gts.map ptr ++ [ptr gt])) (hg6 : ((w4.alloc X).alloc Y).grownBy w6 (ob A)) (hat6 : ob A' = ob A ∨ ob A' = some ((w4.alloc X).alloc Y).heap.size)
    (hO7 : Own w7 B0 44 10 B' (k + 1) d' ((begU (acts.take k)).flatMap ruCells ++ RA)) (hg7 : (w6.alloc Z).grownBy w7 (ob B)) (hat7 : ob B' = ob B ∨ ob B' = some (w6.alloc Z).heap.size)
    (hR : RA = ruCells (actR acts[k].1 acts[k].2, .slice none 0 0, .slice none 0 0)) :
    B1 w w7 m B0 g gc gl gr kc size xs cnt acts (k + 1) (gts ++ [gt]) A' c' B' d' := by
  obtain ⟨b1, b2, b3, b4, b5, b6⟩ := K.base
  have hlen := K.len.1
  have sA : ∀ x, ob A = some x → B0 ≤ x ∧ x < wr.heap.size := K.t.lt
  have sB : ∀ x, ob B = some x → B0 ≤ x ∧ x < wr.heap.size := K.u.lt
  have z4 := hb4.size
  have z6 : w4.heap.size + 2 ≤ w6.heap.size := by have := hg6.size; rw [World.size_alloc, World.size_alloc] at this; omega
  have z7 : w6.heap.size + 1 ≤ w7.heap.size := by have := hg7.size; rw [World.size_alloc] at this; omega
  rw [World.size_alloc, World.size_alloc] at hat6
  rw [World.size_alloc] at hat7
  obtain ⟨L, hL⟩ : ∃ L, L = (ob A).toList ++ (ob B).toList := ⟨_, rfl⟩
  have inL : ∀ x, x ∈ L → B0 ≤ x ∧ x < wr.heap.size ∧ (ob A = some x ∨ ob B = some x) := by
    intro x hx
    rw [hL, List.mem_append, Option.mem_toList, Option.mem_toList] at hx
    rcases hx with hx | hx
    · exact ⟨(sA x hx).1, (sA x hx).2, .inl hx⟩
    · exact ⟨(sB x hx).1, (sB x hx).2, .inr hx⟩
  have mv47 : Mv L w4 w7 := by
    have e5 : Mv L w4 ((w4.alloc X).alloc Y) := ((Mv.refl L w4).alloc X).alloc Y
    have e6 : Mv L w4 w6 := e5.trans (Mv.of_grown hg6 (by intro b hb; rw [hL]; simp [hb]))
    exact (e6.alloc Z).trans (Mv.of_grown hg7 (by intro b hb; rw [hL]; simp [hb]))
  have mv7 : Mv L wr w7 := (Mv.of_below hb4 (Nat.le_refl _)).trans mv47
  have noL : ∀ x, x < B0 → x ∉ L := fun x hx h => by have := (inL x h).1; omega
  have gtB : gt < w4.heap.size := hM4.task.lt
  have farA : ∀ x, x < wr.heap.size → ob A ≠ some x → ob A' ≠ some x := by
    intro x hx h e
    rcases hat6 with h6 | h6
    · exact h (h6 ▸ e)
    · rw [h6] at e
      injection e with e
      omega
  have farB : ∀ x, x < wr.heap.size → ob B ≠ some x → ob B' ≠ some x := by
    intro x hx h e
    rcases hat7 with h7 | h7
    · exact h (h7 ▸ e)
    · rw [h7] at e
      injection e with e
      omega
  refine ⟨K.below.trans (mv7.low (by omega) (fun x hx => by have := (inL x hx).1; omega)), ⟨by have := mv7.size; omega, b2, b3, b4, b5, b6⟩, ⟨K.ring.cells.mv mv7 (noL _ b4) (noL _ b5), mv7.blk K.ring.ring (noL _ b6), K.ring.n2, K.ring.fits, K.ring.few⟩, mv7.blk K.row (noL _ b3), ⟨by simp [hlen], by omega⟩, ?_, ?_, ?_, ?_, ?_, ?_, ?_⟩
  · rw [List.nodup_append]
    refine ⟨K.nodup, by simp, ?_⟩
    intro x hx y hy e
    rw [List.mem_singleton] at hy
    have := (K.low x hx).2
    omega
  · intro j hj
    by_cases e : j < k
    · have h1 : (gts ++ [gt])[j]'(by simp; omega) = gts[j]'(by omega) := List.getElem_append_left (by omega)
      rw [h1]
      have hmem : gts[j]'(by omega) ∈ gts := List.getElem_mem _
      exact (K.mem j e).mv mv7 ⟨fun h => by rcases (inL _ h).2.2 with h' | h'; exact (K.far _ hmem).1 h'; exact (K.far _ hmem).2 h', noL _ b6, noL _ b4, noL _ b5⟩
    · obtain rfl : j = k := by omega
      have h1 : (gts ++ [gt])[j]'(by simp; omega) = gt := by
        rw [List.getElem_append_right (by omega)]
        simp
      rw [h1]
      exact hM4.mv mv47 ⟨fun h => by have := (inL _ h).2.1; omega, noL _ b6, noL _ b4, noL _ b5⟩
  · intro x hx
    rw [List.mem_append, List.mem_singleton] at hx
    rcases hx with hx | rfl
    · have := K.low x hx
      exact ⟨this.1, by omega⟩
    · exact ⟨by omega, by omega⟩
  · rw [List.map_append]
    refine (hO6.alloc Z).kept hg7 ?_
    cases hA' : ob A' with
    | none => exact .inl rfl
    | some y =>
      refine .inr (fun e => ?_)
      have := sB y e.symm
      rcases hat6 with h6 | h6
      · exact K.apart y (h6 ▸ hA') e.symm
      · rw [h6] at hA'
        injection hA' with hA'
        omega
  · rw [begU_take acts k hk, List.flatMap_append, List.flatMap_singleton, ← hR]
    exact hO7
  · intro x hx
    rw [List.mem_append, List.mem_singleton] at hx
    rcases hx with hx | rfl
    · have h1 := K.far x hx
      have h2 := (K.low x hx).2
      exact ⟨farA x h2 h1.1, farB x h2 h1.2⟩
    · refine ⟨fun e => ?_, fun e => ?_⟩
      · rcases hat6 with h6 | h6
        · have := (sA x (h6 ▸ e)).2
          omega
        · rw [h6] at e
          injection e with e
          omega
      · rcases hat7 with h7 | h7
        · have := (sB x (h7 ▸ e)).2
          omega
        · rw [h7] at e
          injection e with e
          omega
  · intro y h1 h2
    have y6 := (hO6.lt y h1).2
    rcases hat6 with h6 | h6
    · rcases hat7 with h7 | h7
      · exact K.apart y (h6 ▸ h1) (h7 ▸ h2)
      · have := (sA y (h6 ▸ h1)).2
        rw [h7] at h2
        injection h2 with h2
        omega
    · rcases hat7 with h7 | h7
      · have := (sB y (h7 ▸ h2)).2
        rw [h6] at h1
        injection h1 with h1
        omega
      · rw [h7] at h2
        injection h2 with h2
        omega
theorem own_blk {w : World} {base n c size : Nat} {e : TypeId} {A : Option Addr} {xs : List Value} (h : Own w base e size A n c xs) (h0 : 0 < n) : ∃ g ex, A = some ⟨g, 0, none⟩ ∧ base ≤ g ∧ Blk w g e (xs ++ ex).toArray := by
  rcases h.2 with ⟨hv, hn⟩ | ⟨g, cap, cur, hv, hb, hh, h4, h5, h6, h7⟩
  · omega
  · injection hv with hA hn hc
    refine ⟨g, cur.toList.drop (n * size), hA, hb, ?_⟩
    have e : (xs ++ cur.toList.drop (n * size)).toArray = cur := by rw [← h7, List.take_append_drop]
    rw [e]
    exact hh
/-- What the second loop keeps. -/
structure B2 (w wr : World) (m g gc gl gr kc size n : Nat) (gts : List Nat) (tb ub : Nat) (exT exU : List Value) (k : Nat) (f : Nat → Nat) (xs : List Int) (cnt : Nat) (Ps : List Pt) (Us : List Ru) : Prop where
  below : Below m w wr
  si : SI wr f g gc gl gr kc size xs cnt n gts Ps Us k
  tags : f tb = 101 ∧ f ub = 101
  ne : tb ≠ ub ∧ tb ≠ g ∧ tb ≠ gc ∧ tb ≠ gl ∧ ub ≠ g ∧ ub ≠ gc ∧ ub ≠ gl ∧ ub ≠ gr
  t : Blk wr tb 27 (gts.map ptr ++ exT).toArray
  u : Blk wr ub 44 (Us.flatMap ruCells ++ exU).toArray
  len : xs.length = size + 3
  low : m ≤ tb ∧ m ≤ ub ∧ m ≤ g ∧ m ≤ gc ∧ m ≤ gl
  own : ∀ b, f b < 100 → m ≤ b
  gsl : ∀ P ∈ Ps, P.gs.length ≤ 2000
theorem pl_ne (a : Ac) : (a.pl == 122) = false := by cases a <;> rfl
/-- One task of the second loop, both ways. -/
structure B2At (wr : World) (f : Nat → Nat) (gc gl gr kc size : Nat) (xs : List Int) (cnt : Nat) (gts : List Nat) (tb ub : Nat) (exU : List Value) (k : Nat) (Ps : List Pt) (Us : List Ru) (j gt : Nat) (P : Pt) (R : Rt) (A5 : Option Addr) (n5 c5 : Nat) (A6 : Option Addr) (n6 c6 : Nat) : Prop where
  hg : gts[j]? = some gt
  hP : Ps[j]? = some P
  hU : Us[j]? = some (R, .slice A5 n5 c5, .slice A6 n6 c6)
  ti : TI wr (fun b => f b = j) gt gr gc gl kc [] size xs cnt P
  rel : Rel P R
  buf : RowQ wr (fun b => f b = 100) (.slice A5 n5 c5) R.buf
  got : RowQ wr (fun b => f b = 100) (.slice A6 n6 c6) R.got
  ct : wr.cell? ⟨tb, j, none⟩ = some (.pointer (some ⟨gt, 0, none⟩))
  c1 : wr.cell? ⟨ub, j * 10 + 1, none⟩ = some (.int .u8 R.pl)
  c8 : wr.cell? ⟨ub, j * 10 + 8, none⟩ = some (.slice A6 n6 c6)
  c9 : wr.cell? ⟨ub, j * 10 + 9, none⟩ = some (.int .i64 P.steps)
  sub : ∀ r, r < (rtArr R (.slice A5 n5 c5) (.slice A6 n6 c6)).size → (Us.flatMap ruCells ++ exU).toArray[j * 10 + r]? = (rtArr R (.slice A5 n5 c5) (.slice A6 n6 c6))[r]?
  big : P.steps ≤ k
  gsl : P.gs.length ≤ 2000
theorem b2_at {w wr : World} {m g gc gl gr kc size n tb ub k cnt : Nat} {gts : List Nat} {exT exU : List Value} {f : Nat → Nat} {xs : List Int} {Ps : List Pt} {Us : List Ru} (K : B2 w wr m g gc gl gr kc size n gts tb ub exT exU k f xs cnt Ps Us) (j : Nat) (hj : j < n) :
    ∃ gt P R A5 n5 c5 A6 n6 c6, B2At wr f gc gl gr kc size xs cnt gts tb ub exU k Ps Us j gt P R A5 n5 c5 A6 n6 c6 := by
  have lg := K.si.lg
  have lp := K.si.lp
  have lu := K.si.lu
  have hu := ru_at Us exU j
  obtain ⟨⟨R, Bv, Gv⟩, hU⟩ : ∃ U, U = Us[j]'(by omega) := ⟨_, rfl⟩
  have hb := K.si.buf j hj
  have hg := K.si.got j hj
  have hr := K.si.rel j hj
  rw [← hU] at hb hg hr
  obtain ⟨A5, n5, c5, e5, -⟩ := id hb
  obtain ⟨A6, n6, c6, e6, -⟩ := id hg
  simp only at e5 e6
  subst e5 e6
  have hsub : ∀ r, r < 10 → (Us.flatMap ruCells ++ exU).toArray[j * 10 + r]? = (rtArr R (.slice A5 n5 c5) (.slice A6 n6 c6))[r]? := by
    intro r hr
    rw [hu r (by omega) hr, ← hU]
  refine ⟨gts[j]'(by omega), Ps[j]'(by omega), R, A5, n5, c5, A6, n6, c6, List.getElem?_eq_getElem _, List.getElem?_eq_getElem _, by rw [hU]; exact List.getElem?_eq_getElem _, K.si.task j hj, hr, hb, hg, ?_, ?_, ?_, ?_, fun r hr => hsub r hr, K.si.big j hj, K.gsl _ (List.getElem_mem _)⟩
  · rw [K.t.cell j, List.getElem?_toArray, List.getElem?_append_left (by simp; omega), List.getElem?_map, List.getElem?_eq_getElem (by omega)]
    rfl
  · rw [K.u.cell, hsub 1 (by omega)]
    rfl
  · rw [K.u.cell, hsub 8 (by omega)]
    rfl
  · rw [K.u.cell, hsub 9 (by omega), ← hr.steps]
    rfl
theorem acc_gs {size : Nat} {xs : List Int} {P : Pt} {a : Ac} (h : P.gs.length ≤ 2000) (hb : P.bs.length ≤ 1000) : (acc size xs P.up a).2.gs.length ≤ 2000 := by
  have h0 : P.up.gs.length ≤ 2000 := h
  have h1 : P.up.bs.length ≤ 1000 := hb
  cases a <;> simp only [acc] <;> (repeat' split) <;> first | exact h0 | (simp; done) | (simp; omega) | omega
theorem rel_pl {P : Pt} {R : Rt} (h : Rel P R) : (R.pl == 122) = P.d.isNone := by
  have hp := h.pos
  unfold AtIs at hp
  cases hd : P.d with
  | none =>
    rw [hd] at hp
    simp only at hp
    rw [hp]
    rfl
  | some a =>
    rw [hd] at hp
    rw [hp.2.1]
    exact pl_ne a
theorem b2_step {w wr w1 w2 w3 : World} {m g gc gl gr kc size n tb ub k cnt gt : Nat} {gts : List Nat} {exT exU : List Value} {f : Nat → Nat} {xs : List Int} {Ps : List Pt} {Us : List Ru} {j : Nat} {P : Pt} {R : Rt} {A5 A6 : Option Addr} {n5 c5 n6 c6 : Nat} {L : List Nat} {a : Ac} {R' : Rt} {B' G' : Value}
    (K : B2 w wr m g gc gl gr kc size n gts tb ub exT exU k f xs cnt Ps Us) (H : B2At wr f gc gl gr kc size xs cnt gts tb ub exU k Ps Us j gt P R A5 n5 c5 A6 n6 c6) (hj : j < n) (hk : k ≤ 1000) (hmw : m ≤ wr.heap.size)
    (h1 : TI w1 (Qn (fun b => f b = j) wr) gt gr gc gl kc [] size (acc size xs P.up a).1 (cnt + 1) (acc size xs P.up a).2) (hm1 : Mv L wr w1) (hL : ∀ b ∈ L, b = gc ∨ b = gl ∨ f b = j)
    (hrel : Rel (acc size xs P.up a).2 R') (hB : RowQ w2 (Qn (fun b => tagged f wr.heap.size j b = 100) w1) B' R'.buf) (hG : RowQ w2 (Qn (fun b => tagged f wr.heap.size j b = 100) w1) G' R'.got) (hrow : Blk w2 g 2 (ints (acc size xs P.up a).1).toArray) (hm2 : Mv [g] w1 w2)
    (h3 : w3 = w2.setRow ub (splice (Us.flatMap ruCells ++ exU).toArray (j * 10) (rtArr R' B' G'))) :
    B2 w w3 m g gc gl gr kc size n gts tb ub exT exU (k + 1) (tagged (tagged f wr.heap.size j) w1.heap.size 100) (acc size xs P.up a).1 (cnt + 1) (Ps.set j (acc size xs P.up a).2) (Us.set j (R', B', G')) := by
  have lg := K.si.lg
  have lu := K.si.lu
  have n8 := K.si.n8
  obtain ⟨e1, e2, e3, e4, e5, e6, e7, e8⟩ := K.ne
  have hgt : gts[j]'(by omega) = gt := by
    have := H.hg
    rw [List.getElem?_eq_getElem (by omega)] at this
    injection this
  have fu := K.tags.2
  have ft := K.tags.1
  have ul := K.u.lt
  have tl := K.t.lt
  have s1 := hm1.size
  have s2 := hm2.size
  have notL : ∀ b, f b = 101 → b ≠ gc → b ≠ gl → b ∉ L := by
    intro b hb h1 h2 h
    rcases hL b h with h' | h' | h'
    · exact h1 h'
    · exact h2 h'
    · omega
  have hu2 : Blk w2 ub 44 (Us.flatMap ruCells ++ exU).toArray := hm2.blk (hm1.blk K.u (notL ub fu e6 e7)) (by simp; omega)
  have ht2 : Blk w2 tb 27 (gts.map ptr ++ exT).toArray := hm2.blk (hm1.blk K.t (notL tb ft e3 e4)) (by simp; omega)
  have tg : ∀ b, b < wr.heap.size → tagged (tagged f wr.heap.size j) w1.heap.size 100 b = f b := by
    intro b hb
    unfold tagged
    rw [if_pos (by omega), if_pos hb]
  have hst := K.si.step (k := k) (ub := ub) (w1 := w1) (w2 := w2) (w3 := w3) (L := L) (xs' := (acc size xs P.up a).1) (P' := (acc size xs P.up a).2) (R' := R') (B' := B') (G' := G') j hj hk (by rw [acc_steps]; have := H.big; show P.steps + 1 ≤ k + 1; omega) (acc_length _ _ _ _) (acc_xok K.si.xok (by have := K.len; omega)) (by rw [hgt]; exact h1) hm1 hL hrel hB hG hrow hm2 ⟨fu, ul, e5, e6, e7, e8⟩ h3
  have hmq : ∀ b ∈ L, m ≤ b := by
    intro b hb
    rcases hL b hb with rfl | rfl | h'
    · exact K.low.2.2.2.1
    · exact K.low.2.2.2.2
    · exact K.own b (by omega)
  have hm12 : Mv (g :: L) wr w2 := (hm1.mono (by intro b hb _; simp [hb])).trans (hm2.mono (by simp))
  have hb2 : Below m wr w2 := hm12.low hmw (by
    intro b hb
    rcases List.mem_cons.1 hb with rfl | hb
    · exact K.low.2.2.1
    · exact hmq b hb)
  have hb3 : Below m w w3 := by
    rw [h3]
    exact below_setRow (K.below.trans hb2) K.low.2.1 (by omega) _
  refine ⟨hb3, hst, ⟨by rw [tg tb tl]; exact ft, by rw [tg ub ul]; exact fu⟩, K.ne, by rw [h3]; exact ht2.farRow e1 _, ?_, by rw [acc_length]; exact K.len, K.low, ?_, ?_⟩
  · rw [h3, ← ru_set Us exU j (R', B', G') (by omega)]
    exact hu2.setRow _
  · intro b hb
    by_cases e : b < wr.heap.size
    · rw [tg b e] at hb
      exact K.own b hb
    · omega
  · intro Q hQ
    rcases List.mem_or_eq_of_mem_set hQ with h | rfl
    · exact K.gsl Q h
    · exact acc_gs H.gsl (by have := H.rel.len.2; have := H.rel.lt.2.2.2; show P.bs.length ≤ 1000; omega)
theorem b2_mid {w wr w1 : World} {m g gc gl gr kc size n tb ub k cnt gt : Nat} {gts : List Nat} {exT exU : List Value} {f : Nat → Nat} {xs : List Int} {Ps : List Pt} {Us : List Ru} {j : Nat} {P : Pt} {R : Rt} {A5 A6 : Option Addr} {n5 c5 n6 c6 : Nat} {L : List Nat}
    (K : B2 w wr m g gc gl gr kc size n gts tb ub exT exU k f xs cnt Ps Us) (H : B2At wr f gc gl gr kc size xs cnt gts tb ub exU k Ps Us j gt P R A5 n5 c5 A6 n6 c6) (hj : j < n) (hm1 : Mv L wr w1) (hL : ∀ b ∈ L, b = gc ∨ b = gl ∨ f b = j) :
    Blk w1 ub 44 (Us.flatMap ruCells ++ exU).toArray ∧ Blk w1 g 2 (ints xs).toArray ∧ RowQ w1 (fun b => tagged f wr.heap.size j b = 100) (.slice A5 n5 c5) R.buf ∧ RowQ w1 (fun b => tagged f wr.heap.size j b = 100) (.slice A6 n6 c6) R.got ∧ ¬ tagged f wr.heap.size j g = 100 ∧ j * 10 + 10 ≤ (Us.flatMap ruCells ++ exU).toArray.size := by
  have n8 := K.si.n8
  have lu := K.si.lu
  obtain ⟨e1, e2, e3, e4, e5, e6, e7, e8⟩ := K.ne
  obtain ⟨t1, t2, t3, t4, t5, t6, t7⟩ := K.si.tags
  have gl' := K.si.row.lt
  have notL : ∀ b, f b = 101 → b ≠ gc → b ≠ gl → b ∉ L := by
    intro b hb h1 h2 h
    rcases hL b h with h' | h' | h'
    · exact h1 h'
    · exact h2 h'
    · omega
  have no100 : ∀ b ∈ L, ¬ f b = 100 := by
    intro b hb h
    rcases hL b hb with rfl | rfl | h'
    · omega
    · omega
    · omega
  have mon : ∀ b, b < w1.heap.size → (f b = 100 ∧ b < wr.heap.size) → tagged f wr.heap.size j b = 100 := by
    intro b _ hb
    unfold tagged
    rw [if_pos hb.2]
    exact hb.1
  refine ⟨hm1.blk K.u (notL ub K.tags.2 e6 e7), hm1.blk K.si.row (notL g t1 t5 t6), (H.buf.old hm1 no100).mono mon, (H.got.old hm1 no100).mono mon, ?_, ?_⟩
  · unfold tagged
    rw [if_pos gl']
    omega
  · have := ru_len Us
    rw [List.size_toArray, List.length_append, this]
    omega
theorem B2.later {w wr w' : World} {m g gc gl gr kc size n tb ub k k' cnt : Nat} {gts : List Nat} {exT exU : List Value} {f : Nat → Nat} {xs : List Int} {Ps : List Pt} {Us : List Ru} (K : B2 w wr m g gc gl gr kc size n gts tb ub exT exU k f xs cnt Ps Us) (hb : Below wr.heap.size wr w') (hk : k ≤ k') (hm : m ≤ wr.heap.size) :
    B2 w w' m g gc gl gr kc size n gts tb ub exT exU k' f xs cnt Ps Us := by
  have h := K.si.below hb
  exact ⟨K.below.trans (hb.mono hm), ⟨h.n8, h.lg, h.lp, h.lu, h.task, h.rel, h.buf, h.got, h.row, h.tags, h.xok, fun j hj => Nat.le_trans (h.big j hj) hk, by have := h.few; omega⟩, K.tags, K.ne, K.t.below hb K.t.lt, K.u.below hb K.u.lt, K.len, K.low, K.own, K.gsl⟩
end Go.Proofs.Ythnhjhlpimgkiaa
namespace Go.Proofs.Ythnhjhlpimgkiaa
open Go.RowKit
set_option maxHeartbeats 4000000 in
set_option maxRecDepth 100000 in
theorem steps_law {a nx size : Int} {A0 AC PC : Option Addr} {n0 c0 na ca np cp : Nat} {row picks : List Int} {acts : List (Int × Int)} {w : World} (ha : 0 ≤ a ∧ a < 4294967296) (hl : row.length = n0) (hr : Row w w.heap.size A0 (ints row))
    (hal : acts.length = na) (har : Row w w.heap.size AC (acts.flatMap actVals)) (hpl : picks.length = np) (hpr : Row w w.heap.size PC (ints picks)) (hmx : na ≤ maxLen ∧ np ≤ maxLen) :
    Calls Try.prog 5 #[.agg #[.int .u32 a, .slice A0 n0 c0, .int .i64 nx], .int .i64 size, .slice AC na ca, .slice PC np cp] w fun e w' => e = .returned (.bool true) ∧ Below w.heap.size w w' := by
  obtain ⟨m, HM⟩ : ∃ m, Hid (m = w.heap.size) := ⟨_, Lib.hid rfl⟩
  obtain ⟨W, HW⟩ : ∃ W, Hid (W = (w.alloc (.cells #[.int .u32 a, .slice A0 n0 c0, .int .i64 nx] 37))) := ⟨_, Lib.hid rfl⟩
  have hbw : Below m w W := by rw [HW.out, HM.out]; exact (Below.refl _ w).alloc (Nat.le_refl _) _
  have hsz : W.heap.size = m + 1 := by rw [HW.out, World.size_alloc, HM.out]
  have HBW := Lib.hid hbw
  have HSZ := Lib.hid hsz
  have HB0 := Lib.hid (show Blk W m 37 #[.int .u32 a, .slice A0 n0 c0, .int .i64 nx] by rw [HW.out, HM.out]; exact Blk.new _ _ _)
  have HLD := Lib.hid (laid_any (nx := nx) (size := size) (c := c0) ha hl ((hr.below (show Below w.heap.size w W by rw [← HM.out]; exact hbw)).more (show w.heap.size ≤ W.heap.size from hbw.size)))
  have HA := Lib.hid ha
  have HAL := Lib.hid hal
  have HAR := Lib.hid har
  have HPL := Lib.hid hpl
  have HPR := Lib.hid hpr
  have hmx1 := hmx.1
  have hmx2 := hmx.2
  rw [← HM.out] at HAR HPR ⊢
  clear hbw hsz ha hl hr hal har hpl hpr hmx
  go_enter Try.func5, Try.ntmps5
  go_wp2_with fail
  rw [show (w.alloc (.cells #[.int .u32 a, .slice A0 n0 c0, .int .i64 nx] 37)) = W from HW.out.symm, ← HM.out]
  refine HLD.out.mono ?_
  rintro e w1 (⟨rfl, hb1⟩ | ⟨sz, rfl, hs, hlen, hnx, g, rfl, hblk, hg0, hb1, -⟩)
  · have H1 := Lib.hid (show Below m w w1 from HBW.out.trans (hb1.mono (by have := HSZ.out; omega)))
    clear hb1 HLD
    go_wp2_with (go_at_call 16; refine (alive14 _).mono ?_; rintro e w4 ⟨rfl, hb4⟩)
    go_ret
    exact ⟨rfl, H1.out.trans (hb4.mono (by have := H1.out.size; have := HM.out; omega))⟩
  · have HLEN := Lib.hid hlen
    have H1 := Lib.hid (show Below m w w1 from HBW.out.trans (hb1.mono (by have := HSZ.out; omega)))
    have HS1 := Lib.hid (show m < g ∧ g < w1.heap.size from ⟨by have := HSZ.out; omega, hblk.lt⟩)
    have HCO := Lib.hid (cellsOf_any hblk (filled_length _ _ _ _ _) (by omega))
    obtain ⟨xs, HX⟩ : ∃ xs, Hid (xs = filled a sz row nx row.length) := ⟨_, Lib.hid rfl⟩
    have HG1 := Lib.hid hblk
    rw [← HX.out] at HCO HG1
    have hs2 : 2 ≤ sz ∧ sz ≤ 8 := by omega
    have HS := Lib.hid hs
    clear hb1 hblk hg0 hnx HLD hlen hs
    have lmx : maxLen < 9223372036854775808 := by unfold maxLen; omega
    by_cases h0 : na = 0
    · subst h0
      go_wp2_with (go_at_call 16; refine (alive14 _).mono ?_; rintro e w4 ⟨rfl, hb4⟩)
      go_ret
      exact ⟨rfl, H1.out.trans (hb4.mono (by have := H1.out.size; have := HM.out; omega))⟩
    · by_cases h8 : 8 < na
      · have k0 : ((na : Int) == 0) = false := by simp; omega
        go_wp2_with (go_at_call 16; refine (alive14 _).mono ?_; rintro e w4 ⟨rfl, hb4⟩)
        go_ret
        exact ⟨rfl, H1.out.trans (hb4.mono (by have := H1.out.size; have := HM.out; omega))⟩
      · by_cases h300 : 300 < np
        · have k0 : ((na : Int) == 0) = false := by simp; omega
          go_wp2_with (go_at_call 16; refine (alive14 _).mono ?_; rintro e w4 ⟨rfl, hb4⟩)
          go_ret
          exact ⟨rfl, H1.out.trans (hb4.mono (by have := H1.out.size; have := HM.out; omega))⟩
        · have k0 : ((na : Int) == 0) = false := by simp; omega
          go_wp2_with (go_at_call 18; refine HCO.out.mono ?_; rintro e w2 ⟨rfl, hC2, hb2⟩)
          obtain ⟨gl, HGL⟩ : ∃ gl, Hid (gl = w1.heap.size) := ⟨_, Lib.hid rfl⟩
          obtain ⟨gc, HGC⟩ : ∃ gc, Hid (gc = gl + 1) := ⟨_, Lib.hid rfl⟩
          rw [← HGL.out, ← HGC.out] at hC2 ⊢
          have hxl : xs.length = sz + 3 := by rw [HX.out]; exact filled_length _ _ _ _ _
          have HN := Lib.hid (mnew_any (some ⟨gc, 0, none⟩) (sz + 3) sz w2 (by have := clen_any hC2; rw [hxl] at this; exact this) (fits_sz HS.out))
          have HXL := Lib.hid hxl
          have HC2 := Lib.hid hC2
          have H2 := Lib.hid (show Below m w w2 from H1.out.trans (hb2.mono (by have := HS1.out; omega)))
          have HG2 := Lib.hid (HG1.out.below hb2 HG1.out.lt)
          clear hb2 hC2 hxl
          refine HN.out.mono ?_
          rintro e w3 ⟨rfl, hw3⟩
          obtain ⟨gr, HGR⟩ : ∃ gr, Hid (gr = w2.heap.size) := ⟨_, Lib.hid rfl⟩
          rw [← HGR.out]
          have hb3 : Below w2.heap.size w2 w3 := by rw [hw3]; exact (Below.refl _ w2).alloc (Nat.le_refl _) _
          have HB3 := Lib.hid (show B14 w3 gr gc gl (sz + 3) [] sz xs (sz + 3) from ⟨HC2.out.below hb3, by rw [hw3, HGR.out]; exact Blk.new _ _ _, ⟨by have := HC2.out.head.lt; have := HGR.out; omega, by have := HC2.out.row.lt; have := HGR.out; omega⟩, ⟨HS.out, by rw [HXL.out]; exact Nat.le_refl _⟩, by omega⟩)
          have H3 := Lib.hid (show Below m w w3 from H2.out.trans (hb3.mono (by have := HC2.out.head.lt; have := HGC.out; have := HGL.out; have := HS1.out; omega)))
          have HG3 := Lib.hid (HG2.out.below hb3 HG2.out.lt)
          have HLT := Lib.hid (show m < g ∧ g < gl ∧ gl < gc ∧ gc < gr ∧ gr < w3.heap.size from ⟨HS1.out.1, by have := HGL.out; have := HS1.out; omega, by have := HGC.out; omega, by have := HC2.out.head.lt; have := HGR.out; omega, HB3.out.ring.lt⟩)
          obtain ⟨B0, HB0'⟩ : ∃ B0, Hid (B0 = w3.heap.size) := ⟨_, Lib.hid rfl⟩
          have HI0 := Lib.hid (show B1 w w3 m B0 g gc gl gr (sz + 3) sz xs (sz + 3) acts 0 [] none 0 none 0 from
            ⟨H3.out, by have := HLT.out; have := HB0'.out; omega, HB3.out, HG3.out, ⟨rfl, Nat.zero_le _⟩, List.nodup_nil, fun j hj => absurd hj (by omega), by simp, Own.nil _ _ _ _, Own.nil _ _ _ _, by simp, fun k hk => by cases hk⟩)
          have HXO := Lib.hid (show XOk xs by
            rw [HX.out]
            unfold XOk
            rw [filled_low _ _ _ _ 0 (by omega), filled_low _ _ _ _ 1 (by omega)]
            have := HA.out
            refine ⟨?_, ?_, ?_, ?_⟩
            · show 0 ≤ a
              omega
            · show a < _
              omega
            · show (0 : Int) ≤ (u (a + row.length) : Int)
              omega
            · show (u (a + row.length) : Int) < _
              have := u_lt (a + row.length)
              omega)
          clear hb3 hw3 HN HC2 HCO HG1 HG2 HG3 H1 H2 H3 HB3 HX
          go_wp2_with fail
          go_loopw [13, 14, 15] (fun va vb vi wr => ∃ (k : Nat) (gts : List Nat) (A : Option Addr) (c : Nat) (B : Option Addr) (d : Nat), k ≤ na ∧ va = .slice A k c ∧ vb = .slice B k d ∧ vi = .int .i64 k ∧ Hid (B1 w wr m B0 g gc gl gr (sz + 3) sz xs (sz + 3) acts k gts A c B d)) (fun va vb vi _ => na - (intOf vi).toNat)
          case atStart => exact ⟨0, [], none, 0, none, 0, by omega, rfl, rfl, rfl, HI0⟩
          case round =>
            rcases hrel with ⟨k, gts, A, c, B, d, hk, rfl, rfl, rfl, K⟩
            by_cases hlt : k < na
            · obtain ⟨b, off, rfl, hb, ca1, ca2⟩ := act_cell (HAR.out.below K.out.below) k (by rw [HAL.out]; exact hlt)
              obtain ⟨kd, HKD⟩ : ∃ kd, Hid (kd = (acts[k]'(by rw [HAL.out]; exact hlt)).1) := ⟨_, Lib.hid rfl⟩
              obtain ⟨gg, HGG⟩ : ∃ gg, Hid (gg = (acts[k]'(by rw [HAL.out]; exact hlt)).2) := ⟨_, Lib.hid rfl⟩
              rw [← HKD.out] at ca1
              rw [← HGG.out] at ca2
              have HT := Lib.hid (task_any K.out.ring kd gg)
              have HK := Lib.hid K
              obtain ⟨i1, hi1, hy0, hy1, hy2⟩ := info_parts Try.info27
              obtain ⟨i2, hi2, hz0, hz1, hz2⟩ := info_parts Try.info44
              have HI1 := Lib.hid hi1
              have HY0 := Lib.hid hy0
              have HY1 := Lib.hid hy1
              have HY2 := Lib.hid hy2
              have HI2 := Lib.hid hi2
              have HZ0 := Lib.hid hz0
              have HZ1 := Lib.hid hz1
              have HZ2 := Lib.hid hz2
              have hk9 : Hid (k + 1 ≤ maxLen) := by unfold maxLen; show _ ≤ _; omega
              clear hi1 hy0 hy1 hy2 hi2 hz0 hz1 hz2
              go_wp2_with (first | (go_at_call 19; refine HT.out.mono ?_; rintro e w4 ⟨gt, rfl, hgt, hM4, hb4⟩; obtain ⟨R, HR⟩ : ∃ R, Hid (R = actR kd gg) := ⟨_, Lib.hid rfl⟩; rw [← HR.out]; simp only [rtArr]; have HM4 := Lib.hid hM4; have HB4 := Lib.hid hb4; have HGT := Lib.hid hgt; have HT4 := Lib.hid (own_mv HK.out.out.t (Mv.of_below hb4 (Nat.le_refl _) : Mv [] wr w4) (by simp)); have HU4 := Lib.hid (own_mv HK.out.out.u (Mv.of_below hb4 (Nat.le_refl _) : Mv [] wr w4) (by simp)); have HS4 := Lib.hid (show B0 ≤ w4.heap.size from Nat.le_trans HK.out.out.base.1 hb4.size); clear hM4 hb4 hgt) | (at_builtin; refine wpList_append_1 _ rfl _ _ 49 rfl B0 27 i1 _ 1 8 Try.underlying49 HI1.out HY0.out HY1.out HY2.out rfl (by decide) A k c (gts.map ptr) rfl ((HT4.out.alloc _).alloc _) ⟨w4.heap.size + 1, 0, none⟩ 1 [ptr gt] rfl rfl (cell_new2 w4 _ _ _) (by simp [ptr, Value.oneCell']) hk9.out (by omega) (by simp; have := HS4.out; omega) ?_; intro A' c' w6 hown6 hgrow6 hat6; have HX6 := Lib.hid (show Blk w6 w4.heap.size 44 #[.int .i64 R.kind, .int .u8 R.pl, .int .i64 R.g, .int .i64 R.old, .int .i64 R.head, .int .i64 R.tail, .int .i64 R.many, .slice none 0 0, .slice none 0 0, .int .i64 R.steps] from ((Blk.new w4 _ _).alloc _).grown hgrow6 (by intro he; have := (HT4.out.lt _ he.symm).2; omega)); have HU6 := Lib.hid (((HU4.out.alloc _).alloc _).kept hgrow6 (ap_ne HK.out.out.apart.symm)); have HO6 := Lib.hid hown6; have HG6 := Lib.hid hgrow6; have HA6 := Lib.hid hat6; have HS6 := Lib.hid (show w4.heap.size + 2 ≤ w6.heap.size by have := hgrow6.size; simp at this; omega); clear hown6 hgrow6 hat6) | (refine wpList_load_row rfl 44 _ rfl w4.heap.size rfl 44 #[.int .i64 R.kind, .int .u8 R.pl, .int .i64 R.g, .int .i64 R.old, .int .i64 R.head, .int .i64 R.tail, .int .i64 R.many, .slice none 0 0, .slice none 0 0, .int .i64 R.steps] (0, 0) _ HX6.out Try.underlying44 rfl Try.infoRt ?_) | (at_builtin; refine wpList_append_1 _ rfl _ _ 50 rfl B0 44 i2 _ 10 112 Try.underlying50 HI2.out HZ0.out HZ1.out HZ2.out rfl (by decide) B k d ((begU (acts.take k)).flatMap ruCells) rfl (HU6.out.alloc _) ⟨w6.heap.size, 0, none⟩ 1 [.int .i64 R.kind, .int .u8 R.pl, .int .i64 R.g, .int .i64 R.old, .int .i64 R.head, .int .i64 R.tail, .int .i64 R.many, .slice none 0 0, .slice none 0 0, .int .i64 R.steps] rfl rfl (cell_newR w6 _ _) (by simp [Value.oneCell']) hk9.out (by omega) (by simp; have := HS6.out; have := HS4.out; omega) ?_; intro B' d' w7 hown7 hgrow7 hat7))
              refine ⟨⟨k + 1, gts ++ [gt], A', c', B', d', by omega, rfl, rfl, by go_num, Lib.hid ?_⟩, by simp [intOf]; omega⟩
              have hkk : k < acts.length := by rw [HAL.out]; exact hlt
              have hM : M14 w4 gt gr gc gl (sz + 3) [] sz xs (sz + 3) (tk (actP (acts[k]'hkk).1 (acts[k]'hkk).2) none 0 none 0 0) := by rw [← HKD.out, ← HGG.out]; exact HM4.out
              exact b1_next HK.out.out hkk HGT.out hM HB4.out HO6.out HG6.out HA6.out hown7 hgrow7 hat7 (by rw [← HKD.out, ← HGG.out, ← HR.out]; rfl)
            · obtain rfl : k = na := by omega
              obtain ⟨tb, exT, rfl, htb, hblt⟩ := own_blk K.out.t (by omega)
              obtain ⟨ub, exU, rfl, hub, hblu⟩ := own_blk K.out.u (by omega)
              have htk : acts.take k = acts := by rw [← HAL.out, List.take_length]
              rw [htk] at hblu
              have hfar := K.out.far
              have hap := K.out.apart
              have hbase := K.out.base
              have HI2 := Lib.hid (show B2 w wr m g gc gl gr (sz + 3) sz k gts tb ub exT exU 0 (tagS gts) xs (sz + 3) (begP acts) (begU acts) from
                ⟨K.out.below, SI.start (by omega) K.out.len.1 HAL.out K.out.nodup K.out.mem K.out.row ⟨fun h => by have := (K.out.low _ h).1; omega, fun h => by have := (K.out.low _ h).1; omega, fun h => by have := (K.out.low _ h).1; omega, fun h => by have := (K.out.low _ h).1; omega, by have := HLT.out; omega⟩ HXO.out (by omega), ⟨tagS_out (fun h => (hfar tb h).1 rfl), tagS_out (fun h => (hfar ub h).2 rfl)⟩, ⟨fun h => hap tb rfl (by rw [h]; rfl), by omega⟩, hblt, hblu, HXL.out, by have := HLT.out; omega, fun b hb => by
                  by_cases e : b ∈ gts
                  · have := (K.out.low b e).1; omega
                  · rw [tagS_out e] at hb; omega, fun P hP => by
                  obtain ⟨x, _, rfl⟩ := List.mem_map.1 hP
                  rw [(actP_bs _ _).2.1]
                  exact Nat.zero_le _⟩)
              clear htb hblt hub hblu htk hfar hap hbase K hlt hk HI0
              go_wp2_with fail
              go_loopw [18] (fun vi wr => ∃ (i : Nat) (f : Nat → Nat) (ys : List Int) (cnt : Nat) (Ps : List Pt) (Us : List Ru), i ≤ np ∧ vi = .int .i64 i ∧ Hid (B2 w wr m g gc gl gr (sz + 3) sz k gts tb ub exT exU i f ys cnt Ps Us)) (fun vi _ => np - (intOf vi).toNat)
              case atStart => exact ⟨0, _, _, _, _, _, by omega, rfl, HI2⟩
              case round =>
                rcases hrel with ⟨i, f, ys, cnt, Ps, Us, hi, rfl, K⟩
                by_cases hlt : i < np
                · obtain ⟨pb, poff, rfl, hpb, hpc⟩ := row_cell (HPR.out.below K.out.below) i (by rw [HPL.out]; exact hlt)
                  generalize picks[i]'(by rw [HPL.out]; exact hlt) = pick at hpc
                  have HMO := Lib.hid (mod_any pick k (by omega) (by omega) wr)
                  go_wp2_with fail
                  refine HMO.out.mono ?_
                  rintro e w4 ⟨j, hj, rfl, rfl⟩
                  obtain ⟨gt, P, R, A5, n5, c5, A6, n6, c6, H⟩ := b2_at K.out j hj
                  have HH := Lib.hid H
                  have c1 := H.c1
                  have ct := H.ct
                  have hpl := rel_pl H.rel
                  have HCN := Lib.hid (ccount_any H.ti.cells)
                  have HDN := Lib.hid (done_any H.ti)
                  have HLG := Lib.hid K.out.si.lg
                  have hcb : cnt ≤ 500 := by have := K.out.si.few; omega
                  clear H
                  cases hd : P.d with
                  | some aa =>
                    rw [hd] at hpl HDN
                    simp only [Option.isNone_some] at hpl HDN
                    have HSP := Lib.hid (step_any HH.out.ti aa hd (by have := HH.out.big; omega) (by have := K.out.si.few; omega))
                    go_wp2_with (first | (go_at_call 21; refine HCN.out.mono ?_; rintro e w5 ⟨rfl, rfl⟩) | (go_at_call 10; refine HDN.out.mono ?_; rintro e w5 ⟨rfl, rfl⟩) | (go_at_call 13; refine HSP.out.mono ?_; rintro e w5 ⟨rfl, h1, L, hm1, hL⟩; obtain ⟨hu5, hr5, hb5, hg5, hq5, hs5⟩ := b2_mid K.out HH.out hj hm1 hL; have HRS := Lib.hid (rstep_any (w := w5) hr5 K.out.len (by rw [K.out.len]; exact Nat.le_refl _) HS.out K.out.si.xok hq5 HH.out.rel aa hd hb5 hg5 (by have := HH.out.big; omega)); have HU5 := Lib.hid hu5; have HSB := Lib.hid hs5; have H1 := Lib.hid h1; have HMV1 := Lib.hid hm1; have HLL := Lib.hid hL; clear hu5 hr5 hb5 hg5 hq5 hs5 h1 hm1 hL) | (refine wpList_load_subW (by rfl) 44 _ rfl ub (j * 10) rfl 44 (Us.flatMap ruCells ++ exU).toArray (rtArr R (.slice A5 n5 c5) (.slice A6 n6 c6)) _ HU5.out HH.out.sub Try.underlying44 rfl Try.infoRt ?_) | (go_at_call 22; refine HRS.out.mono ?_; rintro e w6 ⟨R', B', G', rfl, hrel', hB', hG', hrow', hm2⟩; obtain ⟨A7, n7, c7, rfl, -⟩ := id hB'; obtain ⟨A8, n8, c8, rfl, -⟩ := id hG'; have HREL := Lib.hid hrel'; have HB6 := Lib.hid hB'; have HG6 := Lib.hid hG'; have HROW6 := Lib.hid hrow'; have HMV2 := Lib.hid hm2; have HU6 := Lib.hid (hm2.blk HU5.out (by have := K.out.ne; simp; omega)); clear hrel' hB' hG' hrow' hm2) | (refine wpList_store_sub rfl 44 _ _ rfl ub (j * 10) (rtArr R' (.slice A7 n7 c7) (.slice A8 n8 c8)) rfl rfl 44 (Us.flatMap ruCells ++ exU).toArray HU6.out Try.infoRt HSB.out (rtArr_one _ _ _ _ _ _ _) ?_))
                    obtain ⟨w7, HW7⟩ : ∃ w7, Hid (w7 = w6.setRow ub (splice (Us.flatMap ruCells ++ exU).toArray (j * 10) (rtArr R' (.slice A7 n7 c7) (.slice A8 n8 c8)))) := ⟨_, Lib.hid rfl⟩
                    rw [← HW7.out]
                    have K3 := Lib.hid (b2_step K.out HH.out hj (by omega) (by rw [HM.out]; exact K.out.below.size) H1.out HMV1.out HLL.out HREL.out HB6.out HG6.out HROW6.out HMV2.out HW7.out)
                    obtain ⟨gt3, P3, R3, A3, n3, c3, A4, n4, c4, H3⟩ := b2_at K3.out j hj
                    have HH3 := Lib.hid H3
                    have Ft : ∀ w', SB w7 w' → w'.cell? ⟨tb, j, none⟩ = some (.pointer (some ⟨gt3, 0, none⟩)) := fun w' h => h.cell K3.out.t H3.ct
                    have F1 : ∀ w', SB w7 w' → w'.cell? ⟨ub, j * 10 + 1, none⟩ = some (.int .u8 R3.pl) := fun w' h => h.cell K3.out.u H3.c1
                    have F8 : ∀ w', SB w7 w' → w'.cell? ⟨ub, j * 10 + 8, none⟩ = some (.slice A4 n4 c4) := fun w' h => h.cell K3.out.u H3.c8
                    have F9 : ∀ w', SB w7 w' → w'.cell? ⟨ub, j * 10 + 9, none⟩ = some (.int .i64 P3.steps) := fun w' h => h.cell K3.out.u H3.c9
                    have HTI := Lib.hid (show ∀ w', Below w7.heap.size w7 w' → TI w' _ gt3 gr gc gl (sz + 3) [] sz _ _ P3 from fun w' h => H3.ti.other (Mv.of_below h (Nat.le_refl _) : Mv [] w7 w') (by simp) (H3.ti.cells.below h) rfl H3.ti.few)
                    have hpl3 := rel_pl H3.rel
                    have hbz : ∃ bz, P3.d.isNone = bz := ⟨_, rfl⟩
                    obtain ⟨bz, hbz⟩ := hbz
                    rw [hbz] at hpl3
                    have HD := Lib.hid (show SB w7 w7.drew from (Below.refl _ _).drew)
                    have HCN3 := Lib.hid (ccount_any (HTI.out _ HD.out).cells)
                    rw [show (((_ : Nat)) : Int) = ((cnt : Int) + 1) from rfl] at HCN3
                    clear H3
                    refine region_sch (SB w7) [([0, 2], 1), ([3, 4, 5, 6], 7), ([8, 9, 10, 11, 12, 13, 14, 16, 17, 18, 19, 20, 21], 15), ([22, 23, 24, 25, 26, 27, 28, 30, 31, 32, 33, 34], 29), ([35, 36, 37, 38, 39, 40, 41, 43, 44, 45, 46, 47], 42), ([], 48)] [49, 50] (by kernel_rfl) (by kernel_rfl) (by kernel_rfl) (fun _ _ d _ _ h => by cases d <;> exact h) HD.out ?_
                    (try simp only [Act.put, List.setIfInBounds_toArray, List.set_cons_zero, List.set_cons_succ]); refine sch_seg ?_; simp only [pickOps, List.getElem?_toArray, List.getElem?_cons_zero, List.getElem?_cons_succ]; (repeat (first | go_big_quiet_skip | (go_big_quiet_want; first | (go_big_quiet_op; first | go_big_quiet_on | ((first | with_reducible refine ⟨_, fun _ _ => rfl, ?_⟩); go_big_quiet_on)) | (simp (contextual := true) [go_sem, Ft]; with_reducible refine ⟨_, fun _ _ => rfl, ?_⟩; go_big_quiet_on)))); refine wpQuiet_nil ?_
                    go_wp2_with fail
                    refine HCN3.out.mono ?_
                    rintro e v1 ⟨rfl, rfl⟩
                    go_wp2_with fail
                    refine ⟨SB w7, HD.out, fun _ h => h, ?_⟩
                    (try simp only [Act.put, List.setIfInBounds_toArray, List.set_cons_zero, List.set_cons_succ]); refine sch_seg ?_; simp only [pickOps, List.getElem?_toArray, List.getElem?_cons_zero, List.getElem?_cons_succ]; (repeat (first | go_big_quiet_skip | (go_big_quiet_want; first | (go_big_quiet_op; first | go_big_quiet_on | ((first | with_reducible refine ⟨_, fun _ _ => rfl, ?_⟩); go_big_quiet_on)) | (simp (contextual := true) [go_sem, Ft]; with_reducible refine ⟨_, fun _ _ => rfl, ?_⟩; go_big_quiet_on)))); refine wpQuiet_nil ?_
                    go_wp2_with fail
                    refine (like_any (HTI.out _ HD.out).cells (K3.out.si.row.below HD.out K3.out.si.row.lt) K3.out.len (by omega) (by have := K3.out.si.few; omega)).mono ?_
                    rintro e v2 ⟨rfl, hv2⟩
                    have HD2 := Lib.hid (show SB w7 v2 from HD.out.trans (hv2.mono HD.out.size))
                    clear hv2
                    go_wp2_with fail
                    refine ⟨SB w7, HD2.out, fun _ h => h, ?_⟩
                    (try simp only [Act.put, List.setIfInBounds_toArray, List.set_cons_zero, List.set_cons_succ]); refine sch_seg ?_; simp only [pickOps, List.getElem?_toArray, List.getElem?_cons_zero, List.getElem?_cons_succ]; (repeat (first | go_big_quiet_skip | (go_big_quiet_want; first | (go_big_quiet_op; first | go_big_quiet_on | ((first | with_reducible refine ⟨_, fun _ _ => rfl, ?_⟩); go_big_quiet_on)) | (simp (contextual := true) [go_sem, Ft, F1]; with_reducible refine ⟨_, fun _ _ => rfl, ?_⟩; go_big_quiet_on)))); refine wpQuiet_nil ?_
                    go_wp2_with fail
                    refine (done_any (HTI.out _ HD2.out)).mono ?_
                    rintro e v3 ⟨rfl, rfl⟩
                    rw [hbz]
                    go_wp2_with fail
                    refine ⟨SB w7, HD2.out, fun _ h => h, ?_⟩
                    (try simp only [Act.put, List.setIfInBounds_toArray, List.set_cons_zero, List.set_cons_succ]); refine sch_seg ?_; simp only [pickOps, List.getElem?_toArray, List.getElem?_cons_zero, List.getElem?_cons_succ]; (repeat (first | go_big_quiet_skip | (go_big_quiet_want; first | (go_big_quiet_op; first | go_big_quiet_on | ((first | with_reducible refine ⟨_, fun _ _ => rfl, ?_⟩); go_big_quiet_on)) | (simp (contextual := true) [go_sem, Ft, F9]; with_reducible refine ⟨_, fun _ _ => rfl, ?_⟩; go_big_quiet_on)))); refine wpQuiet_nil ?_
                    go_wp2_with fail
                    refine (steps_any (HTI.out _ HD2.out)).mono ?_
                    rintro e v3 ⟨rfl, rfl⟩
                    go_wp2_with fail
                    refine ⟨SB w7, HD2.out, fun _ h => h, ?_⟩
                    (try simp only [Act.put, List.setIfInBounds_toArray, List.set_cons_zero, List.set_cons_succ]); refine sch_seg ?_; simp only [pickOps, List.getElem?_toArray, List.getElem?_cons_zero, List.getElem?_cons_succ]; (repeat (first | go_big_quiet_skip | (go_big_quiet_want; first | (go_big_quiet_op; first | go_big_quiet_on | ((first | with_reducible refine ⟨_, fun _ _ => rfl, ?_⟩); go_big_quiet_on)) | (simp (contextual := true) [go_sem, Ft, F8]; with_reducible refine ⟨_, fun _ _ => rfl, ?_⟩; go_big_quiet_on)))); refine wpQuiet_nil ?_
                    go_wp2_with fail
                    refine (got_any (HTI.out _ HD2.out) (by have := HH3.out.gsl; omega)).mono ?_
                    rintro e v3 ⟨A9, n9, c9, rfl, hO9, hb9⟩
                    have HD3 := Lib.hid (show SB w7 v3 from HD2.out.trans (hb9.mono HD2.out.size))
                    have HR9 := Lib.hid hO9.row
                    obtain ⟨hr4, hl4⟩ := HH3.out.got.row
                    have HR4 := Lib.hid ((hr4.below HD3.out).more HD3.out.size)
                    have hl9 : P3.gs.length = n9 := by have := hO9.length; simpa [ints] using this
                    rw [HH3.out.rel.got] at HR4 hl4
                    have HL9 := Lib.hid (show n9 ≤ 65536 by have := HH3.out.gsl; omega)
                    obtain rfl : n4 = n9 := by omega
                    have HLL4 := Lib.hid hl4
                    clear hO9 hb9 hr4 hl4 hl9
                    go_wp2_with fail
                    refine ⟨SB w7, HD3.out, fun _ h => h, ?_⟩
                    (try simp only [Act.put, List.setIfInBounds_toArray, List.set_cons_zero, List.set_cons_succ]); refine sch_seg ?_; simp only [pickOps, List.getElem?_toArray, List.getElem?_cons_zero, List.getElem?_cons_succ]; (repeat (first | go_big_quiet_skip | (go_big_quiet_want; first | (go_big_quiet_op; first | go_big_quiet_on | ((first | with_reducible refine ⟨_, fun _ _ => rfl, ?_⟩); go_big_quiet_on)) | (simp (contextual := true) [go_sem, Ft]; with_reducible refine ⟨_, fun _ _ => rfl, ?_⟩; go_big_quiet_on)))); refine wpQuiet_nil ?_
                    go_wp2_with fail
                    refine (numbers_any HLL4.out HL9.out HR9.out HR4.out).mono ?_
                    rintro e v4 ⟨rfl, hb4⟩
                    have HD4 := Lib.hid (show SB w7 v4 from HD3.out.trans (hb4.mono HD3.out.size))
                    clear hb4
                    go_wp2_with fail
                    refine ⟨SB w7, HD4.out, fun _ h => h, ?_⟩
                    (try simp only [Act.put, List.setIfInBounds_toArray, List.set_cons_zero, List.set_cons_succ]); refine sch_end ?_; simp only [pickOps, List.getElem?_toArray, List.getElem?_cons_zero, List.getElem?_cons_succ]; (repeat (first | go_big_quiet_skip | (go_big_quiet_want; first | (go_big_quiet_op; first | go_big_quiet_on | ((first | with_reducible refine ⟨_, fun _ _ => rfl, ?_⟩); go_big_quiet_on)) | (simp (contextual := true) [go_sem, Ft]; with_reducible refine ⟨_, fun _ _ => rfl, ?_⟩; go_big_quiet_on)))); refine wpQuiet_nil ?_
                    clear Ft F1 F8 F9
                    go_wp2_with fail
                    exact ⟨⟨i + 1, _, _, _, _, _, by omega, by go_num, Lib.hid (K3.out.later HD4.out (by omega) (by rw [HM.out]; exact K3.out.below.size))⟩, by simp [intOf]; omega⟩
                  | none =>
                    rw [hd] at hpl HDN
                    simp only [Option.isNone_none] at hpl HDN
                    have HSP := Lib.hid (step_done HH.out.ti hd)
                    go_wp2_with (first | (go_at_call 21; refine HCN.out.mono ?_; rintro e w5 ⟨rfl, rfl⟩) | (go_at_call 10; refine HDN.out.mono ?_; rintro e w5 ⟨rfl, rfl⟩) | (go_at_call 13; refine HSP.out.mono ?_; rintro e w5 ⟨rfl, rfl⟩))
                    obtain ⟨gt3, P3, R3, A3, n3, c3, A4, n4, c4, H3⟩ := b2_at K.out j hj
                    have HH3 := Lib.hid H3
                    have Ft : ∀ w', SB wr w' → w'.cell? ⟨tb, j, none⟩ = some (.pointer (some ⟨gt3, 0, none⟩)) := fun w' h => h.cell K.out.t H3.ct
                    have F1 : ∀ w', SB wr w' → w'.cell? ⟨ub, j * 10 + 1, none⟩ = some (.int .u8 R3.pl) := fun w' h => h.cell K.out.u H3.c1
                    have F8 : ∀ w', SB wr w' → w'.cell? ⟨ub, j * 10 + 8, none⟩ = some (.slice A4 n4 c4) := fun w' h => h.cell K.out.u H3.c8
                    have F9 : ∀ w', SB wr w' → w'.cell? ⟨ub, j * 10 + 9, none⟩ = some (.int .i64 P3.steps) := fun w' h => h.cell K.out.u H3.c9
                    have HTI := Lib.hid (show ∀ w', Below wr.heap.size wr w' → TI w' _ gt3 gr gc gl (sz + 3) [] sz _ _ P3 from fun w' h => H3.ti.other (Mv.of_below h (Nat.le_refl _) : Mv [] wr w') (by simp) (H3.ti.cells.below h) rfl H3.ti.few)
                    have hpl3 := rel_pl H3.rel
                    have hbz : ∃ bz, P3.d.isNone = bz := ⟨_, rfl⟩
                    obtain ⟨bz, hbz⟩ := hbz
                    rw [hbz] at hpl3
                    have HD := Lib.hid (show SB wr wr.drew from (Below.refl _ _).drew)
                    have HCN3 := Lib.hid (ccount_any (HTI.out _ HD.out).cells)
                    clear H3
                    refine region_sch (SB wr) [([0, 2], 1), ([3, 4, 5, 6], 7), ([8, 9, 10, 11, 12, 13, 14, 16, 17, 18, 19, 20, 21], 15), ([22, 23, 24, 25, 26, 27, 28, 30, 31, 32, 33, 34], 29), ([35, 36, 37, 38, 39, 40, 41, 43, 44, 45, 46, 47], 42), ([], 48)] [49, 50] (by kernel_rfl) (by kernel_rfl) (by kernel_rfl) (fun _ _ d _ _ h => by cases d <;> exact h) HD.out ?_
                    (try simp only [Act.put, List.setIfInBounds_toArray, List.set_cons_zero, List.set_cons_succ]); refine sch_seg ?_; simp only [pickOps, List.getElem?_toArray, List.getElem?_cons_zero, List.getElem?_cons_succ]; (repeat (first | go_big_quiet_skip | (go_big_quiet_want; first | (go_big_quiet_op; first | go_big_quiet_on | ((first | with_reducible refine ⟨_, fun _ _ => rfl, ?_⟩); go_big_quiet_on)) | (simp (contextual := true) [go_sem, Ft]; with_reducible refine ⟨_, fun _ _ => rfl, ?_⟩; go_big_quiet_on)))); refine wpQuiet_nil ?_
                    go_wp2_with fail
                    refine HCN3.out.mono ?_
                    rintro e v1 ⟨rfl, rfl⟩
                    go_wp2_with fail
                    refine ⟨SB wr, HD.out, fun _ h => h, ?_⟩
                    (try simp only [Act.put, List.setIfInBounds_toArray, List.set_cons_zero, List.set_cons_succ]); refine sch_seg ?_; simp only [pickOps, List.getElem?_toArray, List.getElem?_cons_zero, List.getElem?_cons_succ]; (repeat (first | go_big_quiet_skip | (go_big_quiet_want; first | (go_big_quiet_op; first | go_big_quiet_on | ((first | with_reducible refine ⟨_, fun _ _ => rfl, ?_⟩); go_big_quiet_on)) | (simp (contextual := true) [go_sem, Ft]; with_reducible refine ⟨_, fun _ _ => rfl, ?_⟩; go_big_quiet_on)))); refine wpQuiet_nil ?_
                    go_wp2_with fail
                    refine (like_any (HTI.out _ HD.out).cells (K.out.si.row.below HD.out K.out.si.row.lt) K.out.len (by omega) (by have := K.out.si.few; omega)).mono ?_
                    rintro e v2 ⟨rfl, hv2⟩
                    have HD2 := Lib.hid (show SB wr v2 from HD.out.trans (hv2.mono HD.out.size))
                    clear hv2
                    go_wp2_with fail
                    refine ⟨SB wr, HD2.out, fun _ h => h, ?_⟩
                    (try simp only [Act.put, List.setIfInBounds_toArray, List.set_cons_zero, List.set_cons_succ]); refine sch_seg ?_; simp only [pickOps, List.getElem?_toArray, List.getElem?_cons_zero, List.getElem?_cons_succ]; (repeat (first | go_big_quiet_skip | (go_big_quiet_want; first | (go_big_quiet_op; first | go_big_quiet_on | ((first | with_reducible refine ⟨_, fun _ _ => rfl, ?_⟩); go_big_quiet_on)) | (simp (contextual := true) [go_sem, Ft, F1]; with_reducible refine ⟨_, fun _ _ => rfl, ?_⟩; go_big_quiet_on)))); refine wpQuiet_nil ?_
                    go_wp2_with fail
                    refine (done_any (HTI.out _ HD2.out)).mono ?_
                    rintro e v3 ⟨rfl, rfl⟩
                    rw [hbz]
                    go_wp2_with fail
                    refine ⟨SB wr, HD2.out, fun _ h => h, ?_⟩
                    (try simp only [Act.put, List.setIfInBounds_toArray, List.set_cons_zero, List.set_cons_succ]); refine sch_seg ?_; simp only [pickOps, List.getElem?_toArray, List.getElem?_cons_zero, List.getElem?_cons_succ]; (repeat (first | go_big_quiet_skip | (go_big_quiet_want; first | (go_big_quiet_op; first | go_big_quiet_on | ((first | with_reducible refine ⟨_, fun _ _ => rfl, ?_⟩); go_big_quiet_on)) | (simp (contextual := true) [go_sem, Ft, F9]; with_reducible refine ⟨_, fun _ _ => rfl, ?_⟩; go_big_quiet_on)))); refine wpQuiet_nil ?_
                    go_wp2_with fail
                    refine (steps_any (HTI.out _ HD2.out)).mono ?_
                    rintro e v3 ⟨rfl, rfl⟩
                    go_wp2_with fail
                    refine ⟨SB wr, HD2.out, fun _ h => h, ?_⟩
                    (try simp only [Act.put, List.setIfInBounds_toArray, List.set_cons_zero, List.set_cons_succ]); refine sch_seg ?_; simp only [pickOps, List.getElem?_toArray, List.getElem?_cons_zero, List.getElem?_cons_succ]; (repeat (first | go_big_quiet_skip | (go_big_quiet_want; first | (go_big_quiet_op; first | go_big_quiet_on | ((first | with_reducible refine ⟨_, fun _ _ => rfl, ?_⟩); go_big_quiet_on)) | (simp (contextual := true) [go_sem, Ft, F8]; with_reducible refine ⟨_, fun _ _ => rfl, ?_⟩; go_big_quiet_on)))); refine wpQuiet_nil ?_
                    go_wp2_with fail
                    refine (got_any (HTI.out _ HD2.out) (by have := HH3.out.gsl; omega)).mono ?_
                    rintro e v3 ⟨A9, n9, c9, rfl, hO9, hb9⟩
                    have HD3 := Lib.hid (show SB wr v3 from HD2.out.trans (hb9.mono HD2.out.size))
                    have HR9 := Lib.hid hO9.row
                    obtain ⟨hr4, hl4⟩ := HH3.out.got.row
                    have HR4 := Lib.hid ((hr4.below HD3.out).more HD3.out.size)
                    have hl9 : P3.gs.length = n9 := by have := hO9.length; simpa [ints] using this
                    rw [HH3.out.rel.got] at HR4 hl4
                    have HL9 := Lib.hid (show n9 ≤ 65536 by have := HH3.out.gsl; omega)
                    obtain rfl : n4 = n9 := by omega
                    have HLL4 := Lib.hid hl4
                    clear hO9 hb9 hr4 hl4 hl9
                    go_wp2_with fail
                    refine ⟨SB wr, HD3.out, fun _ h => h, ?_⟩
                    (try simp only [Act.put, List.setIfInBounds_toArray, List.set_cons_zero, List.set_cons_succ]); refine sch_seg ?_; simp only [pickOps, List.getElem?_toArray, List.getElem?_cons_zero, List.getElem?_cons_succ]; (repeat (first | go_big_quiet_skip | (go_big_quiet_want; first | (go_big_quiet_op; first | go_big_quiet_on | ((first | with_reducible refine ⟨_, fun _ _ => rfl, ?_⟩); go_big_quiet_on)) | (simp (contextual := true) [go_sem, Ft]; with_reducible refine ⟨_, fun _ _ => rfl, ?_⟩; go_big_quiet_on)))); refine wpQuiet_nil ?_
                    go_wp2_with fail
                    refine (numbers_any HLL4.out HL9.out HR9.out HR4.out).mono ?_
                    rintro e v4 ⟨rfl, hb4⟩
                    have HD4 := Lib.hid (show SB wr v4 from HD3.out.trans (hb4.mono HD3.out.size))
                    clear hb4
                    go_wp2_with fail
                    refine ⟨SB wr, HD4.out, fun _ h => h, ?_⟩
                    (try simp only [Act.put, List.setIfInBounds_toArray, List.set_cons_zero, List.set_cons_succ]); refine sch_end ?_; simp only [pickOps, List.getElem?_toArray, List.getElem?_cons_zero, List.getElem?_cons_succ]; (repeat (first | go_big_quiet_skip | (go_big_quiet_want; first | (go_big_quiet_op; first | go_big_quiet_on | ((first | with_reducible refine ⟨_, fun _ _ => rfl, ?_⟩); go_big_quiet_on)) | (simp (contextual := true) [go_sem, Ft]; with_reducible refine ⟨_, fun _ _ => rfl, ?_⟩; go_big_quiet_on)))); refine wpQuiet_nil ?_
                    clear Ft F1 F8 F9
                    go_wp2_with fail
                    exact ⟨⟨i + 1, _, _, _, _, _, by omega, by go_num, Lib.hid (K.out.later HD4.out (by omega) (by rw [HM.out]; exact K.out.below.size))⟩, by simp [intOf]; omega⟩
                · obtain rfl : i = np := by omega
                  go_wp2_with (go_at_call 16; refine (alive14 _).mono ?_; rintro e w4 ⟨rfl, hb4⟩)
                  go_ret
                  exact ⟨rfl, K.out.below.trans (hb4.mono (by have := K.out.below.size; have := HM.out; omega))⟩
end Go.Proofs.Ythnhjhlpimgkiaa
namespace Go.Proofs.Ythnhjhlpimgkiaa
open Go.RowKit Go.ChangeShapes Go.WideShapes Go.Deep Go.Joins
section
variable {H : Type} {enc : TypeId × Value → H} {w : World} {base : Nat}
theorem u32_wf {x : Int} (h : (Lit.int .u32 x).wf = true) : 0 ≤ x ∧ x < 4294967296 := by
  simp [Lit.wf, IntKind.min, IntKind.max, IntKind.signed, IntKind.bits] at h
  exact ⟨by omega, by omega⟩
theorem Try.und2 : Try.prog.underlying 2 = some (.int .i64) := by kernel_rfl
/-- A slice of ints, in whatever reading. -/
theorem open_ints_of {t : TypeId} {fuel : Nat} {v : Value} {x : DataW H × List MemPlace} (ht : Try.prog.underlying t = some (.slice 3)) (h : DataW.trod enc Try.prog w base (fun _ => true) true fuel t [v] = some x) (hlt : ∀ q ∈ x.2, q.block < w.heap.size) :
    ∃ (A : Option Addr) (n c : Nat) (zs : List Int), v = .slice A n c ∧ zs.length = n ∧ n ≤ c ∧ c ≤ maxLen ∧ (∀ z ∈ zs, I64 z) ∧ Row w w.heap.size A (ints zs) := by
  obtain ⟨A, n, c, l, h1, h2, h3, h4, h5, h6⟩ := open_slice_of (fun b : Int => [Value.int .i64 b]) 1 (fun _ => rfl) (by omega) I64 ht (by kernel_rfl)
    (fun n cs y hy _ => by
      obtain ⟨b, rfl, _, wb⟩ := DataW.trod_int Try.underlying3 hy
      exact ⟨b, rfl, i64_wf wb⟩) h hlt
  exact ⟨A, n, c, l, h1, h2, h3, h4, h5, by rw [flat_one] at h6; exact h6⟩
/-- Where a ring begins. -/
theorem open_begin {b0 : Nat} {v : Value} {d : DataW H} {p : List MemPlace} (hv : Value.okWide Try.prog w .any b0 37 v) (h : DataW.Trod enc Try.prog w base (fun _ => true) true 37 v d p) (hlt : ∀ q ∈ p, q.block < w.heap.size) :
    ∃ (a nx : Int) (A : Option Addr) (n c : Nat) (row : List Int), v = .agg #[.int .u32 a, .slice A n c, .int .i64 nx] ∧ (0 ≤ a ∧ a < 4294967296) ∧ row.length = n ∧ Row w w.heap.size A (ints row) := by
  obtain ⟨cs, rfl, hsz⟩ := okWide_struct Try.underlying37 hv
  obtain ⟨fuel, hf⟩ := h
  obtain ⟨hlen, k, hg⟩ := open_fields Try.underlying37 (by kernel_rfl) (by kernel_rfl) hf
  obtain ⟨c0, y0, k0, g0, _⟩ := hg 0 _ rfl
  obtain ⟨c1, y1, k1, g1, p1⟩ := hg 1 _ rfl
  obtain ⟨c2, y2, k2, g2, _⟩ := hg 2 _ rfl
  obtain ⟨a, e0, _, w0⟩ := DataW.trod_int (by kernel_rfl : Try.prog.underlying 34 = some (.int .u32)) g0
  obtain ⟨A, n, c, row, rfl, hl, _, _, _, hr⟩ := open_ints_of (by kernel_rfl) g1 (fun q hq => hlt q (p1 q hq))
  obtain ⟨nx, e2, _, w2⟩ := DataW.trod_int Try.underlying3 g2
  simp only [List.cons.injEq, and_true] at e0 e2
  subst e0 e2
  obtain ⟨l⟩ := cs
  simp only [Value.cells] at hlen k0 k1 k2
  match l, hlen with
  | [x0, x1, x2], _ =>
    simp at k0 k1 k2
    subst k0 k1 k2
    exact ⟨a, nx, A, n, c, row, rfl, u32_wf w0, hl, hr⟩
/-- An act. -/
theorem open_act {b0 : Nat} {v : Value} {d : DataW H} {p : List MemPlace} (hv : Value.okWide Try.prog w .any b0 39 v) (h : DataW.Trod enc Try.prog w base (fun _ => true) true 39 v d p) :
    ∃ (kind g : Int), v = .agg #[.int .i64 kind, .int .i64 g] := by
  obtain ⟨cs, rfl, hsz⟩ := okWide_struct Try.underlying39 hv
  obtain ⟨fuel, hf⟩ := h
  obtain ⟨hlen, k, hg⟩ := open_fields Try.underlying39 (by kernel_rfl) (by kernel_rfl) hf
  obtain ⟨c0, y0, k0, g0, _⟩ := hg 0 _ rfl
  obtain ⟨c1, y1, k1, g1, _⟩ := hg 1 _ rfl
  obtain ⟨a, e0, _, w0⟩ := DataW.trod_int Try.underlying3 g0
  obtain ⟨b, e1, _, w1⟩ := DataW.trod_int Try.und2 g1
  simp only [List.cons.injEq, and_true] at e0 e1
  subst e0 e1
  obtain ⟨l⟩ := cs
  simp only [Value.cells] at hlen k0 k1
  match l, hlen with
  | [x0, x1], _ =>
    simp at k0 k1
    subst k0 k1
    exact ⟨a, b, rfl⟩
end
end Go.Proofs.Ythnhjhlpimgkiaa
namespace Go.Proofs.Ythnhjhlpimgkiaa
open Go.ChangeShapes Go.WideShapes Go.ChangeAt Go.RowKit
section
variable {H : Type} {enc : TypeId × Value → H} {w : World} {base : Nat}
theorem act_of {n : Nat} {cs : List Value} {y : DataW H × List MemPlace} (h : DataW.trod enc Try.prog w base (fun _ => true) true n 39 cs = some y) : ∃ a : Int × Int, cs = actVals a ∧ True := by
  obtain ⟨hlen, k, hg⟩ := open_fields Try.underlying39 (by kernel_rfl) (by kernel_rfl) h
  obtain ⟨c0, y0, k0, g0, _⟩ := hg 0 _ rfl
  obtain ⟨c1, y1, k1, g1, _⟩ := hg 1 _ rfl
  obtain ⟨b0, e0, _, w0⟩ := DataW.trod_int Try.underlying3 g0
  obtain ⟨b1, e1, _, w1⟩ := DataW.trod_int Try.und2 g1
  simp only [List.cons.injEq, and_true] at e0 e1
  subst e0 e1
  match cs, hlen with
  | [x0, x1], _ =>
    simp at k0 k1
    subst k0 k1
    exact ⟨(b0, b1), rfl, trivial⟩
theorem open_acts {b0 : Nat} {v : Value} {d : DataW H} {p : List MemPlace} (hv : Value.okWide Try.prog w .any b0 48 v) (h : DataW.Trod enc Try.prog w base (fun _ => true) true 48 v d p) (hlt : ∀ q ∈ p, q.block < w.heap.size) :
    ∃ (A : Option Addr) (n c : Nat) (l : List (Int × Int)), v = .slice A n c ∧ l.length = n ∧ n ≤ maxLen ∧ Row w w.heap.size A (l.flatMap actVals) := by
  obtain ⟨a0, len, cap, rfl⟩ := okWide_slice Try.underlying48 hv
  obtain ⟨fuel, hf⟩ := h
  obtain ⟨A, n, c, l, h1, h2, h3, h4, h5, h6⟩ := open_slice_of actVals 2 actVals_len (by omega) (fun _ => True) Try.underlying48 (by kernel_rfl) (fun n cs y hy _ => act_of hy) hf hlt
  exact ⟨A, n, c, l, h1, h2, Nat.le_trans h3 h4, h6⟩
end
set_option maxRecDepth 100000 in
theorem microSteps_lifted (os : Os) (started : os.Started) (H : Type) (enc : TypeId × Value → H) :
    ReturnsInHanded {} Try.checked os 5 .any (Rows.microStepsSpec.pre6 enc Try.prog Try.f5 Rows.microStepsRow.domain false) (Rows.microStepsSpec.post enc Try.prog Try.f5 false true false false) := by
  refine returnsInHanded_of_change (C := Try.checked) Try.own started (by kernel_rfl) Try.func5
    (ChangeSpec.witness6 (enc := enc) (C := Try.checked) false ⟨#[], #[.agg #[.int .u32 0, .slice none 0 0, .int .i64 0], .int .i64 0, .slice none 0 0, .slice none 0 0], []⟩ 8 (by kernel_rfl) (by kernel_rfl) (by kernel_rfl) (by kernel_rfl)) ?_
  intro W base args ds gs before hval0 hW _ _
  have hval : ∀ (j : Nat) t v, Try.f5.params[j]? = some t → args[j]? = some v → Value.okWide Try.prog W .any base t v := hval0
  have hW' := hW
  obtain ⟨p, q, hA0, hV, rfl, _, _⟩ := hW
  have hA : DataW.TrodAll enc Try.prog W 0 (fun _ => true) true Try.f5.params.toList args.toList ds p := hA0
  rw [Try.params5] at hA hval
  have hlt : ∀ x ∈ p, x.block < W.heap.size := fun x hx => hW'.lt x (by simp [hx])
  obtain ⟨v0, v1, v2, v3, d0, d1, d2, d3, p0, p1, p2, p3, rfl, rfl, rfl, h0, h1, h2, h3⟩ := trodAll_four hA
  obtain ⟨a, nx, A, n, c, row, rfl, ha, hl, hr⟩ := open_begin (hval 0 37 v0 rfl rfl) h0 (fun q hq => hlt q (by simp [hq]))
  obtain ⟨y, rfl, rfl, rfl, wy⟩ := open_int Try.underlying3 (hval 1 3 v1 rfl rfl) h1
  obtain ⟨AC, na, ca, acts, rfl, hal, hm1, har⟩ := open_acts (hval 2 48 v2 rfl rfl) h2 (fun q hq => hlt q (by simp [hq]))
  obtain ⟨PC, np, cp, picks, rfl, hpl, hp3, hp4, _, hpr⟩ := open_row Try.underlying35 Try.underlying3 (by kernel_rfl) (hval 3 35 v3 rfl rfl) h3 (fun q hq => hlt q (by simp [hq]))
  obtain ⟨rfl, rfl⟩ := trodVars_none hV
  refine (steps_law (w := W) ha hl hr hal har hpl hpr ⟨hm1, Nat.le_trans hp3 hp4⟩).mono fun e W' ⟨he, hb⟩ => ?_
  subst he
  exact ⟨_, rfl, law_post Try.laidOut rfl Try.underlying4 (by kernel_rfl) (by kernel_rfl) ⟨rfl, rfl, rfl⟩ hW' hb⟩

theorem microSteps_holds : Rows.MicroStepsSaid :=
  OpenClaim.holds_of_wide 5 Try.f5 rfl rfl rfl rfl rfl rfl rfl ⟨rfl, rfl, rfl, rfl, rfl⟩ rfl rfl rfl rfl rfl (by kernel_rfl) Try.func5 (by kernel_rfl)
    (of_decide_eq_true (by kernel_rfl)) (by unfold Func.isWrapper; first | (rw [if_pos (by decide +kernel)]; kernel_rfl) | (rw [if_neg (by decide +kernel)]; exact ⟨rfl, rfl⟩))
    (fun os started H enc _ => microSteps_lifted os started H enc)
#print axioms microSteps_holds

end Go.Proofs.Ythnhjhlpimgkiaa

/-
  Chapter 7: contracts of the reader's need and upto: what they hand back, or the panic of the program's own. Condition: the reader and its bytes lie in memory.
-/
import Derived.Test.YthcbceaeobnmgaaDoorRd7
import Derived.Test.YthcbceaeobnmgaaDoorBlk
import Derived.Test.YthcbceaeobnmgaaDoorStr
import Derived.Test.YthcbceaeobnmgaaDoorSchE
namespace Go.Proofs.YthcbceaeobnmgaaDoor
open Go.RowKit
/-- A reader in block g, of the bytes l, at place p. -/
structure Rdr (w : World) (B g : Nat) (A : Option Addr) (n c : Nat) (l : List Nat) (p : Nat) : Prop where
  blk : Blk w g 65 #[.slice A n c, .int .i64 p]
  row : Row w B A (byteVals l)
  lt : B ≤ g
  len : l.length = n
  cap : n ≤ c
  capm : c ≤ maxLen
  byte : ∀ x ∈ l, x < 256
  pos : p ≤ n
  small : n ≤ 65536
/-- The panic of the program's own. -/
def Bad (e : Ending) (q : Nat) : Prop := e = .panicked [{ v := .iface 61 (.agg #[.int .i64 q]), recovered := false }]
/-- Behind a step of a reader: it stands at q; nothing else has turned. -/
def Moved (w w' : World) (g : Nat) (A : Option Addr) (n c q : Nat) : Prop := Blk w' g 65 #[.slice A n c, .int .i64 q] ∧ w.grownBy w' (some g)
theorem Rdr.cells {w : World} {B g n c p : Nat} {A : Option Addr} {l : List Nat} (h : Rdr w B g A n c l p) : w.cell? ⟨g, 0, none⟩ = some (.slice A n c) ∧ w.cell? ⟨g, 1, none⟩ = some (.int .i64 p) := by
  have q0 := h.blk.cell 0
  have q1 := h.blk.cell 1
  simp only [List.getElem?_toArray, List.getElem?_cons_zero, List.getElem?_cons_succ] at q0 q1
  exact ⟨q0, q1⟩
theorem Rdr.facts {w : World} {B g n c p : Nat} {A : Option Addr} {l : List Nat} (h : Rdr w B g A n c l p) : ∀ w', Below w.heap.size w w' → w'.cell? ⟨g, 0, none⟩ = some (.slice A n c) ∧ w'.cell? ⟨g, 1, none⟩ = some (.int .i64 p) := fun w' hb => by
  obtain ⟨q0, q1⟩ := h.cells
  exact ⟨(hb.cell (p := ⟨g, 0, none⟩) h.blk.lt).trans q0, (hb.cell (p := ⟨g, 1, none⟩) h.blk.lt).trans q1⟩
theorem Rdr.moved {w w' : World} {B g n c p q : Nat} {A : Option Addr} {l : List Nat} (h : Rdr w B g A n c l p) (hm : Moved w w' g A n c q) (hq : q ≤ n) : Rdr w' B g A n c l q :=
  ⟨hm.1, h.row.keep (fun a ha => World.cell?_of_block (hm.2.block a.block (Nat.lt_trans (Nat.lt_of_lt_of_le ha h.lt) h.blk.lt) (fun e => by injection e with e; have := h.lt; omega))), h.lt, h.len, h.cap, h.capm, h.byte, hq, h.small⟩
theorem grown_of_below {a b : World} (h : Below a.heap.size a b) (r : Option Nat) : a.grownBy b r := ⟨h.os, h.tape, h.output, h.size, fun i hi _ => h.block i hi⟩
theorem grown_trans7 {a b c : World} {r : Option Nat} (h : a.grownBy b r) (k : b.grownBy c r) : a.grownBy c r :=
  ⟨k.os.trans h.os, k.tape.trans h.tape, k.output.trans h.output, Nat.le_trans h.size k.size, fun i hi hne => (k.block i (Nat.lt_of_lt_of_le hi h.size) hne).trans (h.block i hi hne)⟩
set_option maxHeartbeats 1000000 in
theorem need_bad {w : World} {B g n c p : Nat} {A : Option Addr} {l : List Nat} (h : Rdr w B g A n c l p) (k : Nat) (hk : k ≤ 100) (hb : n < p + k) :
    Calls Tryd.prog 50 #[.pointer (some ⟨g, 0, none⟩), .int .i64 k] w fun e w' => Bad e n ∧ w.grownBy w' (some g) := by
  have hs := h.small
  have hp := h.pos
  have F := h.facts
  have F0 : ∀ w', Below w.heap.size w w' → w'.cell? ⟨g, 0, none⟩ = some (.slice A n c) := fun w' hw => (F w' hw).1
  have F1 : ∀ w', Below w.heap.size w w' → w'.cell? ⟨g, 1, none⟩ = some (.int .i64 p) := fun w' hw => (F w' hw).2
  have e2 : decide ((n : Int) < (p : Int) + (k : Int)) = true := by simp; omega
  have e3 : decide (n < p + k) = true := by simp; omega
  clear F hb h
  go_enter Tryd.func50, Tryd.ntmps50
  go_wp2_with fail
  refine region_below w w.heap.size (by kernel_rfl) (by kernel_rfl) (Below.refl _ _) ?_
  repeat (first | go_big_quiet_skip | (go_big_quiet_want; first | (go_big_quiet_op; first | go_big_quiet_on | ((first | with_reducible refine ⟨_, fun _ _ => rfl, ?_⟩); go_big_quiet_on)) | (simp (contextual := true) [go_sem, F0, F1]; with_reducible refine ⟨_, fun _ _ => rfl, ?_⟩; go_big_quiet_on)))
  refine wpQuiet_nil ?_
  intro w1 hw1
  have q0 := F0 w1 hw1
  have q1 := F1 w1 hw1
  have HW1 := Lib.hid hw1
  clear F0 F1 hw1
  go_wp2_with fail
  exact ⟨rfl, rfl, grown_of_below HW1.out _⟩
set_option maxHeartbeats 1000000 in
theorem need_ok {w : World} {B g n c p : Nat} {A : Option Addr} {l : List Nat} (h : Rdr w B g A n c l p) (k : Nat) (hk : k ≤ 100) (hk0 : 0 < k) (hb : p + k ≤ n) :
    Calls Tryd.prog 50 #[.pointer (some ⟨g, 0, none⟩), .int .i64 k] w fun e w' => (∃ b off, A = some ⟨b, off, none⟩ ∧ e = .returned (.slice (some ⟨b, off + p, none⟩) k (c - p))) ∧ Moved w w' g A n c (p + k) := by
  have hs := h.small
  have hp := h.pos
  have hc := h.cap
  have hcm := h.capm
  unfold maxLen at hcm
  obtain ⟨b, off, rfl, hbb, hcx⟩ := h.row.at_ (k := 0) (by have := h.len; simp [byteVals]; omega)
  have F := h.facts
  have F0 : ∀ w', Below w.heap.size w w' → w'.cell? ⟨g, 0, none⟩ = some (.slice (some ⟨b, off, none⟩) n c) := fun w' hw => (F w' hw).1
  have F1 : ∀ w', Below w.heap.size w w' → w'.cell? ⟨g, 1, none⟩ = some (.int .i64 p) := fun w' hw => (F w' hw).2
  have e2 : decide ((n : Int) < (p : Int) + (k : Int)) = false := by simp; omega
  have e3 : decide (n < p + k) = false := by simp; omega
  have HH := Lib.hid h
  clear F h hcx
  go_enter Tryd.func50, Tryd.ntmps50
  go_wp2_with fail
  refine region_below w w.heap.size (by kernel_rfl) (by kernel_rfl) (Below.refl _ _) ?_
  repeat (first | go_big_quiet_skip | (go_big_quiet_want; first | (go_big_quiet_op; first | go_big_quiet_on | ((first | with_reducible refine ⟨_, fun _ _ => rfl, ?_⟩); go_big_quiet_on)) | (simp (contextual := true) [go_sem, F0, F1]; with_reducible refine ⟨_, fun _ _ => rfl, ?_⟩; go_big_quiet_on)))
  refine wpQuiet_nil ?_
  intro w1 hw1
  have q0 := F0 w1 hw1
  have q1 := F1 w1 hw1
  have HB1 := Lib.hid (HH.out.blk.below hw1 HH.out.blk.lt)
  have qf := HB1.out.frozen 1
  have HW1 := Lib.hid hw1
  clear F0 F1 hw1
  go_wp2_with fail
  have hw2 : ∃ w2 : World, Hid (w2 = w1.setCell ⟨g, 1, none⟩ (.int .i64 ((p : Int) + k))) := ⟨_, rfl⟩
  obtain ⟨w2, HW2⟩ := hw2
  rw [← HW2.out]
  have HB2 := Lib.hid (show Blk w2 g 65 #[.slice (some ⟨b, off, none⟩) n c, .int .i64 ((p : Int) + k)] by rw [HW2.out]; simpa using HB1.out.set_ 1 (.int .i64 ((p : Int) + k)))
  have HG2 := Lib.hid (show w.grownBy w2 (some g) by rw [HW2.out]; exact grown_trans7 (grown_of_below HW1.out _) (grown_set _ _ _))
  have F0 : ∀ w', Below w2.heap.size w2 w' → w'.cell? ⟨g, 0, none⟩ = some (.slice (some ⟨b, off, none⟩) n c) := fun w' hw => by
    have := (HB2.out.below hw HB2.out.lt).cell 0
    simpa using this
  have F1 : ∀ w', Below w2.heap.size w2 w' → w'.cell? ⟨g, 1, none⟩ = some (.int .i64 ((p : Int) + k)) := fun w' hw => by
    have := (HB2.out.below hw HB2.out.lt).cell 1
    simpa using this
  clear q0 q1 qf
  refine region_below w2 w2.heap.size (by kernel_rfl) (by kernel_rfl) (Below.refl _ _) ?_
  repeat (first | go_big_quiet_skip | (go_big_quiet_want; first | (go_big_quiet_op; first | go_big_quiet_on | ((first | with_reducible refine ⟨_, fun _ _ => rfl, ?_⟩); go_big_quiet_on)) | (simp (contextual := true) [go_sem, F0, F1]; with_reducible refine ⟨_, fun _ _ => rfl, ?_⟩; go_big_quiet_on)))
  refine wpQuiet_nil ?_
  intro w3 hw3
  have HW3 := Lib.hid hw3
  clear F0 F1 hw3
  go_wp2_with fail
  go_ret
  refine ⟨⟨b, off, rfl, by simp [Nat.add_sub_cancel_left]⟩, ?_, grown_trans7 HG2.out (grown_of_below HW3.out _)⟩
  have h := HB2.out.below HW3.out HB2.out.lt
  have e : ((p + k : Nat) : Int) = (p : Int) + k := by omega
  rw [e]
  exact h
/-- A byte, at a place. -/
theorem Rdr.byte_at {w : World} {B g n c p : Nat} {A : Option Addr} {l : List Nat} (h : Rdr w B g A n c l p) {b off q : Nat} (hA : A = some ⟨b, off, none⟩) (hq : q < n) : w.cell? ⟨b, off + q, none⟩ = some (.int .u8 (l.getD q 0 : Nat)) ∧ l.getD q 0 < 256 := by
  have hql : q < l.length := by rw [h.len]; exact hq
  obtain ⟨b', off', e, _, hc⟩ := h.row.at_ (k := q) (by simp [byteVals]; exact hql)
  rw [hA] at e
  injection e with e
  injection e with e1 e2
  subst e1 e2
  have e3 : l.getD q 0 = l[q] := by simp [hql]
  rw [e3]
  exact ⟨hc q _ (byteVals_at l q hql), h.byte _ (List.getElem_mem hql)⟩
/-- A byte that may be so great. -/
theorem upto_any {w : World} {B g n c p : Nat} {A : Option Addr} {l : List Nat} (h : Rdr w B g A n c l p) (m : Nat) :
    Calls Tryd.prog 37 #[.pointer (some ⟨g, 0, none⟩), .int .i64 m] w fun e w' =>
      if l.length ≤ p then Bad e n ∧ w.grownBy w' (some g) else if m < l.getD p 0 then Bad e p ∧ w.grownBy w' (some g) else (e = .returned (.int .i64 (l.getD p 0 : Nat)) ∧ Moved w w' g A n c (p + 1)) := by
  have hs := h.small
  obtain ⟨q0, q1⟩ := h.cells
  have HH := Lib.hid h
  by_cases h1 : l.length ≤ p
  · have HI := Lib.hid h1
    have hnb : n < p + 1 := by have := h.len; omega
    clear h h1
    simp only [if_pos HI.out]
    go_enter Tryd.func37, Tryd.ntmps37
    go_wp2_with fail
    refine (need_bad HH.out 1 (by omega) hnb).mono ?_
    rintro e w1 ⟨rfl, hg⟩
    go_wp2_with fail
    exact ⟨rfl, rfl, hg⟩
  · have HI := Lib.hid h1
    have hpn : p < n := by have := h.len; omega
    clear h h1
    simp only [if_neg HI.out]
    have hx : ∃ x : Nat, Hid (x = l.getD p 0) := ⟨_, rfl⟩
    obtain ⟨x, HX⟩ := hx
    rw [← HX.out]
    go_enter Tryd.func37, Tryd.ntmps37
    go_wp2_with fail
    refine (need_ok HH.out 1 (by omega) (by omega) (by omega)).mono ?_
    rintro e w1 ⟨⟨b, off, rfl, rfl⟩, hm1⟩
    obtain ⟨hc1, hc2⟩ := (HH.out.moved hm1 (by omega)).byte_at rfl hpn
    rw [← HX.out] at hc1 hc2
    have HM := Lib.hid hm1
    clear hm1 q0 q1
    by_cases hlt : m < x
    · go_wp2_with fail
      exact ⟨rfl, rfl, HM.out.2⟩
    · go_wp2_with fail
      go_ret
      exact ⟨rfl, HM.out⟩
end Go.Proofs.YthcbceaeobnmgaaDoor

/-
  Chapter 11: which threads fit: contracts of slices.ContainsFunc at frames with vm's closure, fits, Fits. Conditions: program and thread lie in memory; the table isa.rows.
-/
import Derived.Test.YtoacnphgkgklcaaDoorVm5
namespace Go.Proofs.YtoacnphgkgklcaaDoor
open Go.RowKit
/-- A number that is below 0 or not. -/
def IdxOut (w : World) (q : Bool) (e : Ending) (w' : World) : Prop := ∃ k : Int, e = .returned (.int .i64 k) ∧ decide (0 ≤ k) = q ∧ Below w.heap.size w w'
def placesB (fs : List Fn) (st : List (Int × Int)) : Bool := st.all fun f => placeB fs f.1 f.2
theorem placesB_no {fs : List Fn} {st : List (Int × Int)} {k : Nat} (hk : k < st.length) (h : placeB fs st[k].1 st[k].2 = false) : placesB fs st = false := by
  cases hp : placesB fs st with
  | false => rfl
  | true =>
    unfold placesB at hp
    rw [List.all_eq_true] at hp
    rw [hp _ (List.getElem_mem hk)] at h
    cases h
theorem placesB_yes {fs : List Fn} {st : List (Int × Int)} (h : ∀ k (hk : k < st.length), placeB fs st[k].1 st[k].2 = true) : placesB fs st = true := by
  unfold placesB
  rw [List.all_eq_true]
  intro x hx
  obtain ⟨k, hk, rfl⟩ := List.mem_iff_getElem.1 hx
  exact h k hk
set_option maxHeartbeats 4000000 in
theorem indexWrong_any (g : Nat) (A B : Option Addr) (c d n : Nat) (fs : List Fn) (st : List (Int × Int)) (w : World) (hm : fs.length ≤ maxLen) (hn : n ≤ maxLen) (hl : st.length = n) (hg : w.cell? ⟨g, 0, none⟩ = some (.slice A fs.length c)) (hf : FnsOk w w.heap.size A fs) (hr : Row w w.heap.size B (st.flatMap frVals)) :
    Calls Tryd.prog 58 #[.slice B n d, .func (.func 44) #[] #[.pointer (some ⟨g, 0, none⟩)]] w (IdxOut w (!placesB fs st)) := by
  have HM := Lib.hid hm
  have HL := Lib.hid hl
  have HG := Lib.hid hg
  have HF := Lib.hid hf
  have HR := Lib.hid hr
  have hgl : g < w.heap.size := block_lt_of_cell hg
  unfold maxLen at hn
  clear hm hl hg hf hr
  go_enter Tryd.func58, Tryd.ntmps58
  go_wp2_with fail
  go_loopw [8] (fun vi wr => ∃ k : Nat, k ≤ n ∧ vi = .int .i64 k ∧ Hid (∀ j (hj : j < st.length), j < k → placeB fs st[j].1 st[j].2 = true) ∧ Below w.heap.size w wr) (fun vi _ => n - (intOf vi).toNat)
  case atStart => exact ⟨0, Nat.zero_le _, rfl, (fun j _ h => absurd h (by omega)), Below.refl _ _⟩
  case round =>
    obtain ⟨k, hk, rfl, HK, hbw⟩ := hrel
    have HB := Lib.hid hbw
    clear hbw
    by_cases hlt : k < n
    · have hks : k < st.length := by rw [HL.out]; exact hlt
      obtain ⟨b, off, rfl, hbl, hx0, hx1⟩ := fr_cells (HR.out.below HB.out) k hks
      have HNO := Lib.hid (fun h => placesB_no (fs := fs) hks h)
      have HYES := Lib.hid (show placeB fs st[k].1 st[k].2 = true → ∀ j (hj : j < st.length), j < k + 1 → placeB fs st[j].1 st[j].2 = true from fun h j hj hjk => by
        by_cases e : j = k
        · subst e; exact h
        · exact HK.out j hj (by omega))
      generalize st[k] = x at *
      obtain ⟨x1, x2⟩ := x
      simp only at hx0 hx1 HNO HYES
      go_wp2_with fail
      refine (wrong_any x1 x2 g A c fs wr HM.out ((HB.out.cell (p := ⟨g, 0, none⟩) hgl).trans HG.out) (HF.out.step HB.out)).mono ?_
      rintro e w1 ⟨rfl, hb1⟩
      have HB1 := Lib.hid (HB.out.trans (hb1.mono HB.out.size))
      clear hb1
      cases hp : placeB fs x1 x2 with
      | true =>
        have HY := Lib.hid (HYES.out hp)
        clear hp HYES HNO
        go_wp2_with fail
        go_roundw
        case rel => exact ⟨k + 1, by omega, by go_num, HY.out, HB1.out⟩
        case measure => simp [intOf]; omega
      | false =>
        have HN := Lib.hid (HNO.out hp)
        clear hp HYES HNO
        go_wp2_with fail
        go_ret
        exact ⟨k, rfl, by rw [HN.out]; simp, HB1.out⟩
    · have hkn : k = n := by omega
      subst hkn
      go_wp2_with fail
      go_ret
      exact ⟨-1, rfl, by rw [placesB_yes (fun j hj => HK.out j hj (by rw [← HL.out]; exact hj))]; rfl, HB.out⟩
theorem containsWrong_any (g : Nat) (A B : Option Addr) (c d n : Nat) (fs : List Fn) (st : List (Int × Int)) (w : World) (hm : fs.length ≤ maxLen) (hn : n ≤ maxLen) (hl : st.length = n) (hg : w.cell? ⟨g, 0, none⟩ = some (.slice A fs.length c)) (hf : FnsOk w w.heap.size A fs) (hr : Row w w.heap.size B (st.flatMap frVals)) :
    Calls Tryd.prog 45 #[.slice B n d, .func (.func 44) #[] #[.pointer (some ⟨g, 0, none⟩)]] w fun e w' => e = .returned (.bool (!placesB fs st)) ∧ Below w.heap.size w w' := by
  have HI := Lib.hid (indexWrong_any g A B c d n fs st w hm hn hl hg hf hr)
  clear hm hn hl hg hf hr
  go_enter Tryd.func45, Tryd.ntmps45
  go_wp2_with fail
  refine HI.out.mono ?_
  rintro e w1 ⟨k, rfl, hk, hb⟩
  have HB := Lib.hid hb
  have HK := Lib.hid hk
  clear hk hb HI
  go_wp2_with fail
  go_ret
  exact ⟨by rw [← HK.out]; rfl, HB.out⟩
/-- Does a thread that is not done fit? -/
def fitsP (fs : List Fn) (t : Th) : Bool := placeB fs t.fn t.pc && (decide (t.stack.length ≤ 16) && placesB fs t.stack)
set_option maxHeartbeats 4000000 in
theorem fits_any (t : Th) (A B : Option Addr) (c d : Nat) (fs : List Fn) (w : World) (hm : fs.length ≤ maxLen) (hf : FnsOk w w.heap.size A fs) (ht : ThOk w w.heap.size t B d) :
    Calls Tryd.prog 31 #[.agg #[.slice A fs.length c], .agg (thArr t B d)] w fun e w' => e = .returned (.bool (fitsP fs t)) ∧ Below w.heap.size w w' := by
  have h0 := thArr_0 (t := t) B d
  have h1 := thArr_1 (t := t) B d
  have h10 := thArr_10 B d ht.regs
  have HT := Lib.hid ht
  have HF := Lib.hid hf
  have HM := Lib.hid hm
  have hlen := Nat.le_trans ht.len ht.cap
  unfold maxLen at hlen
  clear ht hf hm
  generalize hX : thArr t B d = X at *
  have HX := Lib.hid hX
  clear hX
  have hb0 := below2 w (.cells #[.slice A fs.length c] 24) (.cells X 28)
  have hW : ∃ W : World, Hid (W = (w.alloc (.cells #[.slice A fs.length c] 24)).alloc (.cells X 28)) := ⟨_, rfl⟩
  obtain ⟨W, HW⟩ := hW
  have hBP : Blk W w.heap.size 24 #[.slice A fs.length c] := by rw [HW.out]; exact (Blk.new w _ _).alloc _
  have hBT : Blk W (w.heap.size + 1) 28 X := by rw [HW.out]; exact heap_alloc2_new w _ _
  rw [← HW.out] at hb0
  have HB0 := Lib.hid hb0
  have HBP := Lib.hid hBP
  have HBT := Lib.hid hBT
  clear hb0 hBP hBT
  go_enter Tryd.func31, Tryd.ntmps31
  go_wp2_with fail
  rw [← HW.out]
  refine (wrong_any t.fn t.pc w.heap.size A c fs W HM.out (HBP.out.cell 0) (HF.out.step HB0.out)).mono ?_
  rintro e w1 ⟨rfl, hb1⟩
  have HB1 := Lib.hid (HB0.out.trans (hb1.mono HB0.out.size))
  have HBP1 := Lib.hid (HBP.out.below hb1 HBP.out.lt)
  have hBT1 := HBT.out.below hb1 HBT.out.lt
  have hc10 := hBT1.cell 10
  rw [h10] at hc10
  clear hb1 hBT1 h0 h1 h10
  cases hp : placeB fs t.fn t.pc with
  | false =>
    have HE := Lib.hid (show fitsP fs t = false by unfold fitsP; rw [hp]; rfl)
    clear hp
    go_wp2_with fail
    go_ret
    exact ⟨by rw [HE.out]; rfl, HB1.out⟩
  | true =>
    by_cases h16 : t.stack.length ≤ 16
    · have HE := Lib.hid (show fitsP fs t = placesB fs t.stack by unfold fitsP; rw [hp, decide_eq_true h16]; rfl)
      clear hp
      go_wp2_with fail
      refine (containsWrong_any w.heap.size A B c d t.stack.length fs t.stack w1 HM.out (by unfold maxLen; omega) rfl (HBP1.out.cell 0) (HF.out.step HB1.out) ((HT.out.row.below HB1.out).more HB1.out.size)).mono ?_
      rintro e w2 ⟨rfl, hb2⟩
      have HB2 := Lib.hid (HB1.out.trans (hb2.mono HB1.out.size))
      clear hb2
      go_wp2_with fail
      go_ret
      exact ⟨by rw [HE.out]; simp, HB2.out⟩
    · have HE := Lib.hid (show fitsP fs t = false by unfold fitsP; rw [hp, decide_eq_false h16]; rfl)
      have hd : decide ((t.stack.length : Int) ≤ 16) = false := by simp; omega
      clear hp
      go_wp2_with fail
      go_ret
      exact ⟨by rw [HE.out]; rfl, HB1.out⟩
end Go.Proofs.YtoacnphgkgklcaaDoor

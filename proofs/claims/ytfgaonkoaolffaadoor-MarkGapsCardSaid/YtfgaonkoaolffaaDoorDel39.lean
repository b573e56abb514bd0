/-
  Chapter 39: slices.IndexFunc and slices.DeleteFunc of a rising row of the call's own, with the closure of mark.Heads. Conditions: the row and the closure's box lie in memory.
-/
import Derived.Test.YtfgaonkoaolffaaDoorIns8
import Derived.Test.YtfgaonkoaolffaaDoorMpl39
import Derived.Lib.SliceRun
import Derived.Deep.Upon
namespace Go.Proofs.YtfgaonkoaolffaaDoor
open Go.RowKit
theorem filter_take {l : List Nat} (hr : l.Pairwise (· < ·)) (pc k : Nat) (hk : k ≤ l.length) (h1 : ∀ j (h : j < l.length), j < k → l[j] ≤ pc) (h2 : ∀ h : k < l.length, pc < l[k]) : (l.filter fun y => decide (y ≤ pc)) = l.take k := by
  induction l generalizing k with
  | nil => simp
  | cons a l ih =>
    rw [List.pairwise_cons] at hr
    cases k with
    | zero =>
      have ha := h2 (by simp)
      simp only [List.getElem_cons_zero] at ha
      rw [List.take_zero, List.filter_eq_nil_iff]
      intro y hy
      rcases List.mem_cons.1 hy with rfl | h
      · simp; omega
      · have := hr.1 y h
        simp; omega
    | succ k =>
      have ha := h1 0 (by simp) (by omega)
      simp only [List.getElem_cons_zero] at ha
      rw [List.filter_cons_of_pos (by simpa using ha), List.take_succ_cons]
      congr 1
      exact ih hr.2 k (by simpa using hk) (fun j hj hjk => by have := h1 (j + 1) (by simpa using hj) (by omega); simpa using this) (fun h => by have := h2 (by simpa using h); simpa using this)
theorem heads1_any {w : World} {pb : Nat} {pc : Int} (h : w.cell? ⟨pb, 0, none⟩ = some (.int .i64 pc)) (x : Int) :
    Calls Tryd.prog 36 #[.int .i64 x, .pointer (some ⟨pb, 0, none⟩)] w fun e w' => e = .returned (.bool (decide (pc < x))) ∧ w = w' := by
  go_enter Tryd.func36, Tryd.ntmps36
  go_wp2_with fail
  go_ret
  exact ⟨rfl, rfl⟩
abbrev fvHeads (pb : Nat) : Value := .func (.func 36) #[] #[.pointer (some ⟨pb, 0, none⟩)]
def Le8 (l : List Nat) (pc k : Nat) : Prop := ∀ j (h : j < l.length), j < k → l[j] ≤ pc
def Gt8 (l : List Nat) (pc k : Nat) : Prop := ∃ h : k < l.length, pc < l[k]
set_option maxHeartbeats 2000000 in
theorem index_any {w : World} {B : Nat} {A : Option Addr} {c pb pc n : Nat} (l : List Nat) (hN : n = l.length) (hr : Row w B A (ints (upI l))) (hn : n ≤ 1000) (hp : w.cell? ⟨pb, 0, none⟩ = some (.int .i64 (pc : Int))) :
    Calls Tryd.prog 48 #[.slice A n c, fvHeads pb] w fun e w' => w = w' ∧ ∃ k, k ≤ n ∧ Le8 l pc k ∧ ((k = n ∧ e = .returned (.int .i64 (-1))) ∨ (Gt8 l pc k ∧ e = .returned (.int .i64 (k : Int)))) := by
  have HR := Lib.hid hr
  have HH := Lib.hid (fun (x : Nat) => heads1_any hp (x : Int))
  have HN := Lib.hid hN
  clear hr hp hN
  unfold fvHeads
  go_enter Tryd.func48, Tryd.ntmps48
  go_upto_region 2 with (fail)
  go_loop [8] (fun vi => ∃ k : Nat, k ≤ n ∧ vi = .int .i64 k ∧ Hid (Le8 l pc k)) (fun vi => n - (intOf vi).toNat)
  case atStart => exact ⟨0, by omega, rfl, Lib.hid (fun j _ hj => absurd hj (Nat.not_lt_zero _))⟩
  case round =>
    obtain ⟨k, hk, rfl, K⟩ := hrel
    by_cases hlt : k < n
    · have hkl : k < l.length := by rw [← HN.out]; exact hlt
      obtain ⟨b, off, e0, hb, hc⟩ := HR.out.at_ (k := k) (by rw [ups_len]; exact hkl)
      subst e0
      have c0 := hc k _ (ups_at l k hkl)
      obtain ⟨y, HY⟩ : ∃ y, Hid (y = l[k]) := ⟨_, Lib.hid rfl⟩
      rw [← HY.out] at c0
      have HP := Lib.hid (HH.out y)
      clear hb hc
      go_wp2_with fail
      refine HP.out.mono ?_
      rintro e w' ⟨rfl, rfl⟩
      by_cases he : pc < y
      · have he' : decide (pc < y) = true := decide_eq_true he
        have HE := Lib.hid he
        clear he
        go_wp2_with fail
        go_ret
        exact ⟨rfl, k, by omega, K.out, .inr ⟨⟨hkl, by rw [← HY.out]; exact HE.out⟩, rfl⟩⟩
      · have he' : decide (pc < y) = false := decide_eq_false he
        have HE := Lib.hid he
        clear he
        go_wp2_with fail
        refine ⟨⟨k + 1, by omega, by go_num, Lib.hid fun j hj hjk => ?_⟩, by simp [intOf]; omega⟩
        by_cases e : j = k
        · subst e
          have h1 := HE.out
          have h2 := HY.out
          omega
        · exact K.out j hj (by omega)
    · have HE := Lib.hid (show k = l.length by have := HN.out; omega)
      go_wp2_with fail
      go_ret
      exact ⟨rfl, k, by omega, K.out, .inl ⟨by rw [HN.out]; exact HE.out, rfl⟩⟩
theorem below_cells9 {B b : Nat} {a : World} (hb : B ≤ b) : ∀ (vs : List Value) (o : Nat) (w : World), Below B a w → Below B a (w.setCells b o vs)
  | [], _, _, h => h
  | v :: r, o, w, h => below_cells9 hb r (o + 1) _ (h.setCell (by exact hb) v)
theorem size_cells9 (b : Nat) : ∀ (vs : List Value) (o : Nat) (w : World), (w.setCells b o vs).heap.size = w.heap.size
  | [], _, _ => rfl
  | v :: r, o, w => by rw [World.setCells, size_cells9 b r (o + 1)]; simp [World.setCell]
theorem Tryd.zero3d (w : World) : (zeroValue 3).run Tryd.prog w = .ok (.int .i64 0) w := by kernel_rfl
set_option maxHeartbeats 4000000 in
theorem delete_any {w : World} {base : Nat} {A : Option Addr} {c pb pc : Nat} (l : List Nat) (h : Own w base 3 1 A l.length c (ints (upI l))) (hrise : l.Pairwise (· < ·)) (hn : l.length ≤ 1000) (hB : base ≤ w.heap.size) (hpb : pb < base) (hp : w.cell? ⟨pb, 0, none⟩ = some (.int .i64 (pc : Int))) :
    Calls Tryd.prog 37 #[.slice A l.length c, fvHeads pb] w fun e w' => ∃ A' c', e = .returned (.slice A' (l.filter fun y => decide (y ≤ pc)).length c') ∧ Row w' w'.heap.size A' (ints (upI (l.filter fun y => decide (y ≤ pc)))) ∧ Below base w w' := by
  have HO := Lib.hid h
  have HB := Lib.hid hB
  have HI := Lib.hid (index_any (c := c) l rfl h.row hn hp)
  have HH := Lib.hid (fun (V : World) (hV : Below base w V) (x : Nat) => heads1_any (w := V) (pb := pb) (pc := (pc : Int)) ((hV.cell hpb).trans hp) (x : Int))
  have HR := Lib.hid hrise
  obtain ⟨n, HN⟩ : ∃ n, Hid (n = l.length) := ⟨_, Lib.hid rfl⟩
  rw [← HN.out] at HO HI hn ⊢
  clear h hp hB hrise
  unfold fvHeads at HI ⊢
  go_enter Tryd.func37, Tryd.ntmps37
  go_upto_region 1 with (fail)
  go_wp2_with fail
  refine HI.out.mono ?_
  rintro e w' ⟨rfl, k, hk, h1, (⟨hkn, rfl⟩ | ⟨h2, rfl⟩)⟩
  · have H1 := Lib.hid h1
    have HKN := Lib.hid hkn
    clear h1 hk hkn
    have HF := Lib.hid (show (l.filter fun y => decide (y ≤ pc)) = l by
      rw [filter_take HR.out pc k (by rw [HKN.out, ← HN.out]; exact Nat.le_refl _) H1.out (fun h => absurd h (by have := HN.out; have := HKN.out; omega)), List.take_of_length_le (by have := HN.out; have := HKN.out; omega)])
    clear H1
    go_wp2_with fail
    go_ret
    rw [HF.out, ← HN.out]
    exact ⟨A, c, rfl, HO.out.row, .refl _ _⟩
  · have HF := Lib.hid (show (l.filter fun y => decide (y ≤ pc)) = l.take k from filter_take HR.out pc k (by rw [← HN.out]; exact hk) h1 (fun h => h2.2))
    obtain ⟨hkl, hgt⟩ := h2
    have HGT := Lib.hid hgt
    have hkn : k < n := by rw [HN.out]; exact hkl
    obtain ⟨g, cap, cur, eO, hbg, hg, hnc, hcm, hcs, htk⟩ : ∃ g cap cur, (Value.slice A n c) = .slice (some ⟨g, 0, none⟩) n cap ∧ base ≤ g ∧ w.heap[g]? = some (.cells cur 3 (0, 0)) ∧ n ≤ cap ∧ cap ≤ maxLen ∧ cur.size = cap * 1 ∧ cur.toList.take (n * 1) = ints (upI l) := by
      rcases HO.out.2 with ⟨_, h0⟩ | h
      · omega
      · exact h
    injection eO with e1 e2 e3
    subst e1
    subst e3
    have HX := Lib.hid (show ∀ j (h : j < l.length), w.cell? ⟨g, j, none⟩ = some (.int .i64 (l[j] : Nat)) from fun j hj => by
      obtain ⟨b', off', eb, _, hc⟩ := HO.out.row.at_ (k := j) (by rw [ups_len]; exact hj)
      injection eb with eb
      injection eb with eb1 eb2
      subst eb1
      subst eb2
      have := hc j _ (ups_at l j hj)
      simpa using this)
    have HFZ := Lib.hid (show ∀ j, w.frozen? ⟨g, j, none⟩ = false from fun j => Blk.frozen (show Blk w g 3 cur from hg) j)
    have hs1 : ∀ w, (Instr.sliceAt 51 (.slice (some ⟨g, 0, none⟩) n c) (some (.int .i64 (k : Int))) none none).run Tryd.prog w = .ok (.slice (some ⟨g, k, none⟩) (n - k) (c - k)) w := fun w => by
      rw [slice_hi (some ⟨g, 0, none⟩) n c k (by omega) w]
      unfold offA
      rw [if_neg (by omega)]
      simp [Go.WideShapes.add_plain]
    have hs2 : ∀ w, (Instr.sliceAt 51 (.slice (some ⟨g, 0, none⟩) n c) none (some (.int .i64 (k : Int))) none).run Tryd.prog w = .ok (.slice (some ⟨g, 0, none⟩) k c) w := fun w => by
      rw [slice_lo (some ⟨g, 0, none⟩) n c k (by omega) w]
      unfold offA
      split
      · rfl
      · simp [Go.WideShapes.add_plain]
    have hcl : ∀ ty, (Builtin.clear_ #[51] ty #[.slice (some ⟨g, k, none⟩) (n - k) (c - k)]).run Tryd.prog w = .ok (.tuple #[]) (w.setCells g k (List.replicate (n - k) (.int .i64 0))) := fun ty =>
      Lib.run_clear_slice w _ 3 ty _ Tryd.underlying51 Tryd.zero3d rfl rfl g k _ _ (by omega) (fun j hj => by rw [HX.out (k + j) (by have := HN.out; omega)]; rfl) (fun j _ => HFZ.out _)
    have HLT := Lib.hid (show g < w.heap.size from (Array.getElem?_eq_some_iff.1 hg).1)
    have HBG := Lib.hid hbg
    have hk1 : ((k : Int) == -1) = false := beq_eq_false_iff_ne.2 (by omega)
    clear h1 hgt hg htk hcs
    go_upto_region 5 with (fail)
    go_loop [5, 6] (fun v5 vj => ∃ j : Nat, k < j ∧ j ≤ n ∧ vj = .int .i64 j ∧ v5 = .int .i64 k) (fun _ vj => n - (intOf vj).toNat)
    case atStart => exact ⟨k + 1, by omega, by omega, by go_num, rfl⟩
    case round =>
      obtain ⟨j, hkj, hj, rfl, rfl⟩ := hrel
      by_cases hlt : j < n
      · have hjl : j < l.length := by rw [← HN.out]; exact hlt
        have c0 := HX.out j hjl
        have hgt : pc < l[j] := by
          have h1 := List.pairwise_iff_getElem.1 HR.out k j hkl hjl hkj
          have h2 := HGT.out
          omega
        obtain ⟨y, HY⟩ : ∃ y, Hid (y = l[j]) := ⟨_, Lib.hid rfl⟩
        rw [← HY.out] at c0 hgt
        have hd : decide (pc < y) = true := decide_eq_true hgt
        have HP := Lib.hid (HH.out w (.refl _ _) y)
        clear hgt
        go_wp2_with fail
        refine HP.out.mono ?_
        rintro e w' ⟨rfl, rfl⟩
        go_wp2_with fail
        exact ⟨⟨j + 1, by omega, by omega, by go_num, rfl⟩, by simp [intOf]; omega⟩
      · obtain rfl : j = n := by omega
        go_wp2_with fail
        go_ret
        rw [HF.out, show (l.take k).length = k by rw [List.length_take]; omega]
        refine ⟨some ⟨g, 0, none⟩, ⟨c, rfl⟩, ?_, ?_⟩
        · refine .inr ⟨g, 0, rfl, ?_, fun i u hu => ?_⟩
          · rw [size_cells9]
            exact HLT.out
          · rw [ups_take, List.getElem?_take] at hu
            split at hu
            · rename_i hik
              rw [World.cell?_setCells_out g _ k w _ (fun _ _ => .inl (by simpa using hik)), Nat.zero_add, HX.out i (by omega)]
              rw [ups_at l i (by omega)] at hu
              exact hu
            · cases hu
        · exact below_cells9 HBG.out _ _ _ (.refl _ _)
end Go.Proofs.YtfgaonkoaolffaaDoor

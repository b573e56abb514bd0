/-
  Chapter 8: the reference's Insert and add: a number, in order. Conditions: the row lies in memory.
-/
import Derived.Test.YtfgaonkoaolffaaDoorAdd8
namespace Go.Proofs.YtfgaonkoaolffaaDoor
open Go.RowKit
theorem ups_take (l : List Nat) (k : Nat) : ints (upI (l.take k)) = (ints (upI l)).take k := by simp [ints, upI, List.map_take]
theorem ups_drop (l : List Nat) (k : Nat) : ints (upI (l.drop k)) = (ints (upI l)).drop k := by simp [ints, upI, List.map_drop]
theorem row_take {w : World} {B : Nat} {A : Option Addr} {xs : List Value} (h : Row w B A xs) (k : Nat) : Row w B A (xs.take k) := by
  rcases h with h | ⟨b, off, e, hb, hc⟩
  · left; rw [h]; simp
  · exact .inr ⟨b, off, e, hb, fun j u hu => hc j u (by rw [List.getElem?_take] at hu; split at hu; exact hu; cases hu)⟩
/-- What lies behind k elements. -/
def offA (A : Option Addr) (c k : Nat) : Option Addr := if c = k then A else A.map (·.add k)
theorem row_drop {w : World} {B : Nat} {A : Option Addr} {xs : List Value} (h : Row w B A xs) (c k : Nat) (hc : xs.length ≤ c) : Row w B (offA A c k) (xs.drop k) := by
  by_cases hk : k < xs.length
  · rcases h with h | ⟨b, off, e, hb, hx⟩
    · rw [h] at hk; exact absurd hk (Nat.not_lt_zero _)
    · refine .inr ⟨b, off + k, ?_, hb, fun j u hu => ?_⟩
      · unfold offA
        rw [if_neg (by omega), e]
        simp [Go.WideShapes.add_plain]
      · rw [List.getElem?_drop] at hu
        rw [Nat.add_assoc]
        exact hx _ u hu
  · left
    exact List.drop_eq_nil_of_le (by omega)
theorem ups_one (l : List Nat) : ∀ u ∈ ints (upI l), u.oneCell' = true := by
  intro u hu
  simp only [ints, upI, List.mem_map] at hu
  obtain ⟨x, _, rfl⟩ := hu
  rfl
theorem split_lt (l : List Nat) (x k : Nat) (hk : k ≤ l.length) (h1 : ∀ j (h : j < l.length), j < k → l[j] < x) (h2 : ∀ h : k < l.length, ¬ l[k] < x) : insN l x = l.take k ++ x :: l.drop k := by
  have ht : l.takeWhile (fun y => decide (y < x)) = l.take k ∧ l.dropWhile (fun y => decide (y < x)) = l.drop k := by
    induction l generalizing k with
    | nil => simp
    | cons a l ih =>
      cases k with
      | zero =>
        have := h2 (by simp)
        simp only [List.getElem_cons_zero] at this
        simp [this]
      | succ k =>
        have ha := h1 0 (by simp) (by omega)
        simp only [List.getElem_cons_zero] at ha
        obtain ⟨h3, h4⟩ := ih k (by simpa using hk) (fun j hj hjk => by have := h1 (j + 1) (by simpa using hj) (by omega); simpa using this) (fun h => by have := h2 (by simpa using h); simpa using this)
        simp [ha, h3, h4]
  unfold insN
  rw [ht.1, ht.2]
theorem Tryd.size3 (w : World) : (sizeOf 3).run Tryd.prog w = .ok 1 w := by kernel_rfl
theorem slice_lo (A : Option Addr) (n c k : Nat) (hk : k ≤ c) (w : World) : (Instr.sliceAt 51 (.slice A n c) none (some (.int .i64 (k : Int))) none).run Tryd.prog w = .ok (.slice (offA A c 0) k c) w := by
  rw [run_sliceAt_slice _ _ _ _ _ _ (by kernel_rfl), run_slice_h _ _ _ _ _ (by kernel_rfl) _ _ (by omega) (by omega), show Tryd.prog.elem 51 = 3 by kernel_rfl, Tryd.size3]
  simp [sliced, offA, Result.andThen]
theorem slice_hi (A : Option Addr) (n c k : Nat) (hk : k ≤ n) (w : World) : (Instr.sliceAt 51 (.slice A n c) (some (.int .i64 (k : Int))) none none).run Tryd.prog w = .ok (.slice (offA A c k) (n - k) (c - k)) w := by
  rw [run_sliceAt_slice _ _ _ _ _ _ (by kernel_rfl), run_slice_l _ _ _ _ _ (by kernel_rfl) _ _ (by omega) (by omega), show Tryd.prog.elem 51 = 3 by kernel_rfl, Tryd.size3]
  simp [sliced, offA, Result.andThen]
set_option maxHeartbeats 2000000 in
theorem insert_any {w : World} {A : Option Addr} {c : Nat} (l : List Nat) (x : Nat) (hr : Row w w.heap.size A (ints (upI l))) (hn : l.length ≤ 1000) (hc : l.length ≤ c) :
    Calls Tryd.prog 43 #[.slice A l.length c, .int .i64 x] w (RowOut w (insN l x)) := by
  have HR := Lib.hid hr
  obtain ⟨n, HN⟩ : ∃ n, Hid (n = l.length) := ⟨_, Lib.hid rfl⟩
  rw [← HN.out] at hn hc ⊢
  have HC := Lib.hid hc
  have HN1 := Lib.hid hn
  obtain ⟨i0, hi, hz0, hz1, hz2⟩ := info_parts Tryd.infoI3
  have HI := Lib.hid hi
  have HZ0 := Lib.hid hz0
  have HZ1 := Lib.hid hz1
  have HZ2 := Lib.hid hz2
  have HON := Lib.hid (fun (V : World) (hV : w.heap.size ≤ V.heap.size) => (show Own (V.alloc (.cells #[] 3)) w.heap.size 3 1 (some ⟨V.heap.size, 0, none⟩) 0 0 [] from World.ownsRow_lit V #[] 0 hV (by decide) rfl))
  clear hr hi hz0 hz1 hz2
  go_enter Tryd.func43, Tryd.ntmps43
  go_upto_region 2 with (fail)
  go_loop [5] (fun vi => ∃ k : Nat, k ≤ n ∧ vi = .int .i64 k ∧ Hid (∀ j (h : j < l.length), j < k → l[j] < x)) (fun vi => n - (intOf vi).toNat)
  case atStart => exact ⟨0, by omega, rfl, Lib.hid (fun j _ hj => absurd hj (Nat.not_lt_zero _))⟩
  case round =>
    obtain ⟨k, hk, rfl, K⟩ := hrel
    have HK := Lib.hid hk
    have HEND := Lib.hid (fun (h : ∀ h : k < l.length, ¬ l[k] < x) => split_lt l x k (by rw [← HN.out]; exact HK.out) K.out h)
    have hs1 := fun w => slice_lo A n c k (Nat.le_trans hk hc) w
    have hs2 := fun w => slice_hi A n c k hk w
    by_cases hlt : k < n
    · have hkl : k < l.length := by rw [← HN.out]; exact hlt
      obtain ⟨b, off, e0, hb, hc⟩ := HR.out.at_ (k := k) (by rw [ups_len]; exact hkl)
      have c0 := hc k _ (ups_at l k hkl)
      obtain ⟨y, HY⟩ : ∃ y, Hid (y = l[k]) := ⟨_, Lib.hid rfl⟩
      rw [← HY.out] at c0
      by_cases he : y < x
      · subst e0
        have he' : decide (y < x) = true := decide_eq_true he
        have HE := Lib.hid he
        clear hb hc he HEND hs1 hs2
        go_wp2_with fail
        refine ⟨⟨k + 1, by omega, by go_num, Lib.hid fun j hj hjk => ?_⟩, by simp [intOf]; omega⟩
        by_cases e : j = k
        · subst e; rw [← HY.out]; exact HE.out
        · exact K.out j hj (by omega)
      · have he' : decide (y < x) = false := decide_eq_false he
        subst e0
        have HSP := Lib.hid (HEND.out (fun _ => by rw [← HY.out]; exact he))
        clear HEND hb hc he HY
        go_upto_region 4 with (fail)
        go_upto_region 5 with (at_builtin; go_must (refine wpList_append_row _ rfl _ _ 51 rfl w.heap.size 3 i0 _ 1 8 Tryd.underlying51 HI.out HZ0.out HZ1.out HZ2.out rfl (by decide) _ _ _ _ rfl (HON.out w (Nat.le_refl _)) _ _ _ _ (ints (upI (l.take k))) rfl (by rw [ups_len, List.length_take]; have h1 := HK.out; have h2 := HN.out; omega) (by rw [ups_take]; exact row_take ((row_drop HR.out c 0 (by rw [ups_len, ← HN.out]; exact HC.out)).below ((Below.refl _ w).alloc (Nat.le_refl _) _)) k) (ups_one _) (by have h1 := HK.out; have h2 := HN1.out; unfold maxLen; omega) (by have h1 := HK.out; have h2 := HN1.out; omega) (by simp) ?_); intro A1 c1 V1 hown hgrow _; rw [Nat.zero_add, List.nil_append] at hown; have HO1 := Lib.hid hown; have HB1 := Lib.hid (show Below w.heap.size w V1 from (((Below.refl _ w).alloc (Nat.le_refl _) _).grown hgrow (by simp) (fun q hq => by cases hq; exact Nat.le_refl _))); clear hown hgrow)
        go_upto_region 6 with (at_builtin; go_must (refine wpList_append_1 _ rfl _ _ 51 rfl w.heap.size 3 i0 _ 1 8 Tryd.underlying51 HI.out HZ0.out HZ1.out HZ2.out rfl (by decide) _ _ _ _ rfl (HO1.out.alloc _) ⟨V1.heap.size, 0, none⟩ 1 [.int .i64 (x : Int)] rfl rfl (cell_one_new _ _ _) (by simp [Value.oneCell']) (by have h1 := HK.out; have h2 := HN1.out; unfold maxLen; omega) (by have h1 := HK.out; have h2 := HN1.out; omega) (by rw [World.size_alloc]; have h1 := HB1.out.size; omega) ?_); intro A2 c2 V2 hown hgrow _; have HO2 := Lib.hid hown; have HB2 := Lib.hid (below_append HB1.out HO1.out (Nat.le_refl _) HB1.out.size hgrow); clear hown hgrow)
        go_wp2_with (at_builtin; go_must (refine wpList_append_row _ rfl _ _ 51 rfl w.heap.size 3 i0 _ 1 8 Tryd.underlying51 HI.out HZ0.out HZ1.out HZ2.out rfl (by decide) _ _ _ _ rfl HO2.out _ _ _ _ (ints (upI (l.drop k))) rfl (by rw [ups_len, List.length_drop, ← HN.out]; omega) (by rw [ups_drop]; exact (row_drop HR.out c k (by rw [ups_len, ← HN.out]; exact HC.out)).below HB2.out) (ups_one _) (by have h1 := HK.out; have h2 := HN1.out; unfold maxLen; omega) (by have h1 := HK.out; have h2 := HN1.out; omega) HB2.out.size ?_); intro A3 c3 V3 hown hgrow _; have HO3 := Lib.hid hown; have HB3 := Lib.hid (HB2.out.grown hgrow HB2.out.size (fun q hq => (HO2.out.lt q hq).1)); clear hown hgrow)
        go_ret
        have e1 : k + 1 + (n - k) = (insN l x).length := by rw [HSP.out]; have h1 := HK.out; have h2 := HN.out; simp only [List.length_append, List.length_take, List.length_cons, List.length_drop]; omega
        refine ⟨A3, c3, congrArg (fun m => Ending.returned (.slice A3 m c3)) e1, ?_, HB3.out⟩
        have h := HO3.out
        have e2 : ints (upI (List.take k l)) ++ [Value.int .i64 (x : Int)] ++ ints (upI (List.drop k l)) = ints (upI (insN l x)) := by rw [HSP.out]; simp [ints, upI]
        rw [e2] at h
        rw [← e1]
        simpa using h
    · have HSP := Lib.hid (HEND.out (fun h => absurd h (by have := HN.out; omega)))
      clear HEND
      go_upto_region 4 with (fail)
      go_upto_region 5 with (at_builtin; go_must (refine wpList_append_row _ rfl _ _ 51 rfl w.heap.size 3 i0 _ 1 8 Tryd.underlying51 HI.out HZ0.out HZ1.out HZ2.out rfl (by decide) _ _ _ _ rfl (HON.out w (Nat.le_refl _)) _ _ _ _ (ints (upI (l.take k))) rfl (by rw [ups_len, List.length_take]; have h1 := HK.out; have h2 := HN.out; omega) (by rw [ups_take]; exact row_take ((row_drop HR.out c 0 (by rw [ups_len, ← HN.out]; exact HC.out)).below ((Below.refl _ w).alloc (Nat.le_refl _) _)) k) (ups_one _) (by have h1 := HK.out; have h2 := HN1.out; unfold maxLen; omega) (by have h1 := HK.out; have h2 := HN1.out; omega) (by simp) ?_); intro A1 c1 V1 hown hgrow _; rw [Nat.zero_add, List.nil_append] at hown; have HO1 := Lib.hid hown; have HB1 := Lib.hid (show Below w.heap.size w V1 from (((Below.refl _ w).alloc (Nat.le_refl _) _).grown hgrow (by simp) (fun q hq => by cases hq; exact Nat.le_refl _))); clear hown hgrow)
      go_upto_region 6 with (at_builtin; go_must (refine wpList_append_1 _ rfl _ _ 51 rfl w.heap.size 3 i0 _ 1 8 Tryd.underlying51 HI.out HZ0.out HZ1.out HZ2.out rfl (by decide) _ _ _ _ rfl (HO1.out.alloc _) ⟨V1.heap.size, 0, none⟩ 1 [.int .i64 (x : Int)] rfl rfl (cell_one_new _ _ _) (by simp [Value.oneCell']) (by have h1 := HK.out; have h2 := HN1.out; unfold maxLen; omega) (by have h1 := HK.out; have h2 := HN1.out; omega) (by rw [World.size_alloc]; have h1 := HB1.out.size; omega) ?_); intro A2 c2 V2 hown hgrow _; have HO2 := Lib.hid hown; have HB2 := Lib.hid (below_append HB1.out HO1.out (Nat.le_refl _) HB1.out.size hgrow); clear hown hgrow)
      go_wp2_with (at_builtin; go_must (refine wpList_append_row _ rfl _ _ 51 rfl w.heap.size 3 i0 _ 1 8 Tryd.underlying51 HI.out HZ0.out HZ1.out HZ2.out rfl (by decide) _ _ _ _ rfl HO2.out _ _ _ _ (ints (upI (l.drop k))) rfl (by rw [ups_len, List.length_drop, ← HN.out]; omega) (by rw [ups_drop]; exact (row_drop HR.out c k (by rw [ups_len, ← HN.out]; exact HC.out)).below HB2.out) (ups_one _) (by have h1 := HK.out; have h2 := HN1.out; unfold maxLen; omega) (by have h1 := HK.out; have h2 := HN1.out; omega) HB2.out.size ?_); intro A3 c3 V3 hown hgrow _; have HO3 := Lib.hid hown; have HB3 := Lib.hid (HB2.out.grown hgrow HB2.out.size (fun q hq => (HO2.out.lt q hq).1)); clear hown hgrow)
      go_ret
      have e1 : k + 1 + (n - k) = (insN l x).length := by rw [HSP.out]; have h1 := HK.out; have h2 := HN.out; simp only [List.length_append, List.length_take, List.length_cons, List.length_drop]; omega
      refine ⟨A3, c3, congrArg (fun m => Ending.returned (.slice A3 m c3)) e1, ?_, HB3.out⟩
      have h := HO3.out
      have e2 : ints (upI (List.take k l)) ++ [Value.int .i64 (x : Int)] ++ ints (upI (List.drop k l)) = ints (upI (insN l x)) := by rw [HSP.out]; simp [ints, upI]
      rw [e2] at h
      rw [← e1]
      simpa using h
theorem add_is (l : List Nat) (x : Nat) : addN l x = if x ∈ l then l else insN l x := rfl
/-- A row in memory: nil, or of new blocks. -/
def NewRow (w0 : World) (w : World) (A : Option Addr) (n c : Nat) (l : List Nat) : Prop := n = l.length ∧ Own w w0.heap.size 3 1 A n c (ints (upI l)) ∧ n ≤ c
set_option maxHeartbeats 1000000 in
/-- add: the row itself, or a new one. -/
theorem add_any {w w0 : World} {A : Option Addr} {n c : Nat} (l : List Nat) (x : Nat) (h : NewRow w0 w A n c l) (hn : l.length ≤ 1000) (h0 : w0.heap.size ≤ w.heap.size) :
    Calls Tryd.prog 44 #[.slice A n c, .int .i64 x] w fun e w' => ∃ A' c', e = .returned (.slice A' (addN l x).length c') ∧ NewRow w0 w' A' (addN l x).length c' (addN l x) ∧ Below w.heap.size w w' := by
  obtain ⟨rfl, h2, h3⟩ := h
  have H2 := Lib.hid h2
  have H3 := Lib.hid h3
  have H0 := Lib.hid h0
  have HH := Lib.hid (has_any (c := c) l x h2.row hn)
  have HI := Lib.hid (insert_any (c := c) l x h2.row hn h3)
  by_cases hx : x ∈ l
  · have HA := Lib.hid (show addN l x = l by rw [add_is, if_pos hx])
    rw [HA.out]
    rw [decide_eq_true hx] at HH
    clear h2 h3 hx HA HI
    go_enter Tryd.func44, Tryd.ntmps44
    go_wp2_with (go_at_call 27; refine HH.out.mono ?_; rintro e V ⟨rfl, rfl⟩)
    go_ret
    exact ⟨A, c, rfl, ⟨rfl, H2.out, H3.out⟩, .refl _ _⟩
  · have HA := Lib.hid (show addN l x = insN l x by rw [add_is, if_neg hx])
    rw [HA.out]
    rw [decide_eq_false hx] at HH
    clear h2 h3 hx HA
    go_enter Tryd.func44, Tryd.ntmps44
    go_wp2_with (first | (go_at_call 27; refine HH.out.mono ?_; rintro e V ⟨rfl, rfl⟩) | (go_at_call 43; refine HI.out.mono ?_; rintro e V ⟨A1, c1, rfl, ho, hb⟩; have HO := Lib.hid ho; have HB := Lib.hid hb; clear ho hb))
    go_ret
    exact ⟨A1, c1, rfl, ⟨rfl, own_base HO.out H0.out, by
      rcases HO.out.2 with ⟨hv, hn⟩ | ⟨g, cap, cur, hv, _, _, hc, _⟩
      · omega
      · injection hv with _ _ h; omega⟩, HB.out⟩
end Go.Proofs.YtfgaonkoaolffaaDoor

/-
  Contracts of susp.New, Has, Suspend, Resume and of the reference's Mod. Conditions: the log lies in memory, its map holds 1 at some keys and nothing else.
-/
import Derived.Test.YtndidpeklbllpaaAll26
import Derived.Test.YtndidpeklbllpaaSusp
namespace Go.Proofs.Ytndidpeklbllpaa
open Go.RowKit Go.Maps
theorem Try.zero3 (w : World) : (zeroValue 3).run Try.prog w = .ok (.int .i64 0) w := by kernel_rfl
theorem lit_one : (Lit.int .i64 1).wf = true := by decide
theorem lit_wf {x : Int} (h : I64 x) : (Lit.int .i64 x).wf = true := by
  unfold I64 at h
  simp [Lit.wf, IntKind.min, IntKind.max, IntKind.signed, IntKind.bits]; omega
/-- A log of gs, in block l, its map in block gm: p are suspended, c of them. -/
structure LogIs (w : World) (l gm : Nat) (gs : Int) (n : Nat) (p : Int → Bool) (c : Nat) : Prop where
  blk : Blk w l 39 #[.int .i64 gs, .map (some gm)]
  set_ : SetIs Try.prog 3 w gm n p c
  ne : l ≠ gm
theorem SetIs.kept {w w' : World} {P : Program} {T : TypeId} {B n c : Nat} {p : Int → Bool} {row : Option Nat} (h : SetIs P T w B n p c) (hg : w.grownBy w' row) (hne : some B ≠ row) : SetIs P T w' B n p c := by
  obtain ⟨D, h1, h2, h3⟩ := h
  exact ⟨D, h1.kept hg hne, h2, h3⟩
theorem LogIs.kept {w w' : World} {l gm n c : Nat} {gs : Int} {p : Int → Bool} {row : Option Nat} (h : LogIs w l gm gs n p c) (hg : w.grownBy w' row) (h1 : some l ≠ row) (h2 : some gm ≠ row) : LogIs w' l gm gs n p c :=
  ⟨h.blk.grown hg h1, h.set_.kept hg h2, h.ne⟩
theorem two_cells {w : World} {g : Nat} {t : TypeId} {x y : Value} (h : Blk w g t #[x, y]) : w.cell? ⟨g, 0, none⟩ = some x ∧ w.cell? ⟨g, 1, none⟩ = some y := by
  have q0 := h.cell 0
  have q1 := h.cell 1
  simp only [List.getElem?_toArray, List.getElem?_cons_zero, List.getElem?_cons_succ] at q0 q1
  exact ⟨q0, q1⟩
theorem lnew_any (gs : Nat) (h : gs ≤ 64) (w : World) : Calls Try.prog 5 #[.int .i64 gs] w fun e w' => e = .returned (.pointer (some ⟨w.heap.size + 1, 0, none⟩)) ∧ LogIs w' (w.heap.size + 1) w.heap.size gs 0 (fun _ => false) 0 ∧ Below w.heap.size w w' := by
  have hmm := @run_makeMap Try.prog
  have hd : decide ((gs : Int) < 0) = false := by simp
  go_enter Try.func5, Try.ntmps5
  go_wp2
  go_ret
  refine ⟨rfl, ⟨?_, ?_, by omega⟩, ((Below.refl _ _).alloc (Nat.le_refl _) _).alloc (by simp) _⟩
  · have hb := Blk.new (w.alloc (.map #[] 0)) 39 #[.int .i64 gs, .map (some w.heap.size)]
    rw [World.size_alloc] at hb
    exact hb
  · exact (SetIs.made w).kept (World.grownBy_alloc _ _ none) (by simp)
theorem lnew_bad (gs : Int) (h : gs < 0 ∨ 64 < gs) (w : World) : Calls Try.prog 5 #[.int .i64 gs] w fun e w' => e = .returned (.pointer none) ∧ w = w' := by
  rcases h with h | h
  · go_enter Try.func5, Try.ntmps5
    go_wp2
    go_ret
    exact ⟨rfl, rfl⟩
  · have h1 : decide (gs < 0) = false := by simp; omega
    go_enter Try.func5, Try.ntmps5
    go_wp2
    go_ret
    exact ⟨rfl, rfl⟩
theorem has_nil (t : Int) (w : World) : Calls Try.prog 6 #[.pointer none, .int .i64 t] w fun e w' => e = .returned (.bool false) ∧ w = w' := by
  go_enter Try.func6, Try.ntmps6
  go_wp2
  go_ret
  exact ⟨rfl, rfl⟩
theorem suspend_nil (t : Int) (w : World) : Calls Try.prog 7 #[.pointer none, .int .i64 t] w fun e w' => e = .returned (.bool false) ∧ w = w' := by
  go_enter Try.func7, Try.ntmps7
  go_wp2_with fail
  go_ret
  exact ⟨rfl, rfl⟩
theorem lresume_nil (t : Int) (w : World) : Calls Try.prog 8 #[.pointer none, .int .i64 t] w fun e w' => e = .returned (.bool false) ∧ w = w' := by
  go_enter Try.func8, Try.ntmps8
  go_wp2_with (go_at_call 6; refine (has_nil _ _).mono ?_; rintro e w' ⟨rfl, rfl⟩)
  go_ret
  exact ⟨rfl, rfl⟩
theorem all_nil (w : World) : Calls Try.prog 9 #[.pointer none] w fun e w' => e = .returned (.slice none 0 0) ∧ w = w' := by
  go_enter Try.func9, Try.ntmps9
  go_wp2_with fail
  go_ret
  exact ⟨rfl, rfl⟩
theorem lk_eq {x y : Int} {d : DataW Unit} (h : d = .lit (.int .i64 x)) (h2 : d = .lit (.int .i64 y)) : x = y := by
  rw [h] at h2
  injection h2 with h2
  injection h2 with _ h2
theorem has_set {w : World} {l gm n c : Nat} {gs : Int} {p : Int → Bool} (h : LogIs w l gm gs n p c) (t : Int) (ht : I64 t) : Calls Try.prog 6 #[.pointer (some ⟨l, 0, none⟩), .int .i64 t] w fun e w' => e = .returned (.bool (p t)) ∧ w = w' := by
  obtain ⟨D, hown, hD, hsz⟩ := h.set_
  obtain ⟨q0, q1⟩ := two_cells h.blk
  obtain ⟨cc, hrun, hat, _⟩ := hown.lookup_int (int_keyed Try.underlying3) Try.underlying37 Try.underlying3 (Try.zero3 w) (keyOf_int_mk Try.underlying3 (lit_wf ht))
  obtain rfl := lk_eq hat (hD t).2
  clear hown hD hsz h hat
  cases hp : p t with
  | true =>
    rw [hp, if_pos rfl] at hrun
    clear hp
    go_enter Try.func6, Try.ntmps6
    go_wp2
    go_ret
    exact ⟨rfl, rfl⟩
  | false =>
    rw [hp, if_neg (by simp)] at hrun
    clear hp
    go_enter Try.func6, Try.ntmps6
    go_wp2
    go_ret
    exact ⟨rfl, rfl⟩
/-- What a log is behind a step: the same, or another set; nothing else has turned. -/
def Stepped (w w' : World) (l gm : Nat) (gs : Int) (n : Nat) (p : Int → Bool) : Prop := (∃ c, c ≤ n ∧ LogIs w' l gm gs n p c) ∧ w.grownBy w' (some gm)
theorem SetIs.le {w : World} {P : Program} {T : TypeId} {B n c : Nat} {p : Int → Bool} (h : SetIs P T w B n p c) : c ≤ n := by
  obtain ⟨D, h1, h2, h3⟩ := h
  have := h1.size_le
  omega
theorem suspend_yes {w : World} {l gm n c : Nat} {gs : Int} {p : Int → Bool} (h : LogIs w l gm gs n p c) (hn : n < 1000) (t : Int) (hg : gs ≤ 64) (h1 : 1 ≤ t) (h2 : t ≤ gs) (hp : p t = false) :
    Calls Try.prog 7 #[.pointer (some ⟨l, 0, none⟩), .int .i64 t] w fun e w' => e = .returned (.bool true) ∧ Stepped w w' l gm gs (n + 1) (addI p t) := by
  obtain ⟨D, hown, hD, hsz⟩ := h.set_
  obtain ⟨q0, q1⟩ := two_cells h.blk
  have HW := Lib.hid (lit_wf (x := t) ⟨by omega, by omega⟩)
  have HP := Lib.hid (put_facts (i := t) (hown.tidy (int_keyed Try.underlying3)) hD hsz)
  have HO := Lib.hid hown
  have HH := Lib.hid h
  have HPT := Lib.hid hp
  have hN : Hid (n < maxLen) := by unfold maxLen; show _ < _; omega
  clear hown hD hsz h hp
  go_enter Try.func7, Try.ntmps7
  go_wp2_with (first | (go_at_call 6; refine (has_set HH.out t ⟨by omega, by omega⟩).mono ?_; rintro e w' ⟨rfl, rfl⟩; rw [HPT.out]) | (at_mapUpdate; refine wpList_mapUpdate_own _ rfl _ _ _ 37 rfl 3 3 (int_keyed Try.underlying3) Try.underlying37 _ gm n D rfl HO.out hN.out _ _ _ rfl rfl (keyOf_int_mk Try.underlying3 HW.out) _ [] (plainElem_int Try.underlying3 lit_one) ?_; intro w4 hown4 hgrow4))
  go_ret
  have hs : SetIs Try.prog 3 w4 gm (n + 1) (addI p t) _ := ⟨_, hown4, HP.out.1, rfl⟩
  exact ⟨rfl, ⟨_, hs.le, HH.out.blk.grown hgrow4 (by intro e; injection e with e; exact HH.out.ne e), hs, HH.out.ne⟩, hgrow4⟩
theorem suspend_no {w : World} {l gm n c : Nat} {gs : Int} {p : Int → Bool} (h : LogIs w l gm gs n p c) (t : Int) (ht : I64 t) (hp : ¬ (1 ≤ t ∧ t ≤ gs) ∨ p t = true) :
    Calls Try.prog 7 #[.pointer (some ⟨l, 0, none⟩), .int .i64 t] w fun e w' => e = .returned (.bool false) ∧ w = w' := by
  obtain ⟨q0, q1⟩ := two_cells h.blk
  have HH := Lib.hid h
  have HT := Lib.hid ht
  clear h ht
  by_cases h1 : t < 1
  · clear hp
    go_enter Try.func7, Try.ntmps7
    go_wp2_with fail
    go_ret
    exact ⟨rfl, rfl⟩
  · by_cases h2 : gs < t
    · clear hp
      have h1' : decide (t < 1) = false := by simpa using h1
      clear h1
      go_enter Try.func7, Try.ntmps7
      go_wp2_with fail
      go_ret
      exact ⟨rfl, rfl⟩
    · have HP := Lib.hid (hp.resolve_left (fun h => h ⟨by omega, by omega⟩))
      have h1' : decide (t < 1) = false := by simpa using h1
      have h2' : decide (gs < t) = false := by simpa using h2
      clear hp h1 h2
      go_enter Try.func7, Try.ntmps7
      go_wp2_with (go_at_call 6; refine (has_set HH.out t HT.out).mono ?_; rintro e w' ⟨rfl, rfl⟩; rw [HP.out])
      go_ret
      exact ⟨rfl, rfl⟩
theorem lresume_yes {w : World} {l gm n c : Nat} {gs : Int} {p : Int → Bool} (h : LogIs w l gm gs n p c) (t : Int) (ht : I64 t) (hp : p t = true) :
    Calls Try.prog 8 #[.pointer (some ⟨l, 0, none⟩), .int .i64 t] w fun e w' => e = .returned (.bool true) ∧ Stepped w w' l gm gs n (subI p t) := by
  obtain ⟨D, hown, hD, hsz⟩ := h.set_
  obtain ⟨q0, q1⟩ := two_cells h.blk
  have HW := Lib.hid (lit_wf ht)
  have HP := Lib.hid (del_facts (i := t) (hown.tidy (int_keyed Try.underlying3)) hD hsz)
  have HO := Lib.hid hown
  have HH := Lib.hid h
  have HPT := Lib.hid hp
  have HT := Lib.hid ht
  clear hown hD hsz h hp ht
  go_enter Try.func8, Try.ntmps8
  go_wp2_with (first | (go_at_call 6; refine (has_set HH.out t HT.out).mono ?_; rintro e w' ⟨rfl, rfl⟩; rw [HPT.out]) | (at_delete; refine wpList_delete_own _ rfl _ _ 37 3 rfl 3 (int_keyed Try.underlying3) Try.underlying37 _ gm n D rfl HO.out _ _ rfl (keyOf_int_mk Try.underlying3 HW.out) ?_; intro w4 hown4 hturn4))
  go_ret
  have hs : SetIs Try.prog 3 w4 gm n (subI p t) _ := ⟨_, hown4, HP.out.1, rfl⟩
  exact ⟨rfl, ⟨_, hs.le, HH.out.blk.grown hturn4.grown (by intro e; injection e with e; exact HH.out.ne e), hs, HH.out.ne⟩, hturn4.grown⟩
theorem lresume_no {w : World} {l gm n c : Nat} {gs : Int} {p : Int → Bool} (h : LogIs w l gm gs n p c) (t : Int) (ht : I64 t) (hp : p t = false) :
    Calls Try.prog 8 #[.pointer (some ⟨l, 0, none⟩), .int .i64 t] w fun e w' => e = .returned (.bool false) ∧ w = w' := by
  obtain ⟨q0, q1⟩ := two_cells h.blk
  have HH := Lib.hid h
  have HT := Lib.hid ht
  have HP := Lib.hid hp
  clear h ht hp
  go_enter Try.func8, Try.ntmps8
  go_wp2_with (go_at_call 6; refine (has_set HH.out t HT.out).mono ?_; rintro e w' ⟨rfl, rfl⟩; rw [HP.out])
  go_ret
  exact ⟨rfl, rfl⟩
/-- The reference's Mod where nothing is turned. -/
theorem mod_in (k m : Nat) (h : k < m) (hm : m ≤ 1000) (w : World) : Calls Try.prog 10 #[.int .i64 k, .int .i64 m] w fun e w' => e = .returned (.int .i64 k) ∧ w = w' := by
  have hd : (k : Int).tmod m = k := by rw [Int.tmod_eq_emod_of_nonneg (by omega)]; exact Int.emod_eq_of_lt (by omega) (by omega)
  have hd2 : (k : Int) % m = k := Int.emod_eq_of_lt (by omega) (by omega)
  have hz : ((m : Int) == 0) = false := by simp; omega
  have h0 : 0 < m := by omega
  go_enter Try.func10, Try.ntmps10
  go_wp2
  go_ret
  exact ⟨rfl, rfl⟩
theorem add_same {p : Int → Bool} {t : Int} (h : p t = true) : addI p t = p := by
  funext j
  unfold addI
  by_cases hj : j = t
  · rw [if_pos hj, hj, h]
  · rw [if_neg hj]
theorem sub_same {p : Int → Bool} {t : Int} (h : p t = false) : subI p t = p := by
  funext j
  unfold subI
  by_cases hj : j = t
  · rw [if_pos hj, hj, h]
  · rw [if_neg hj]
theorem LogIs.mono {w : World} {l gm n c : Nat} {gs : Int} {p : Int → Bool} (h : LogIs w l gm gs n p c) {n' : Nat} (hn : n ≤ n') : LogIs w l gm gs n' p c := by
  obtain ⟨D, h1, h2, h3⟩ := h.set_
  exact ⟨h.blk, ⟨D, h1.mono hn, h2, h3⟩, h.ne⟩
theorem suspend_in {w : World} {l gm n c : Nat} {gs : Int} {p : Int → Bool} (h : LogIs w l gm gs n p c) (hn : n < 1000) (t : Int) (hg : gs ≤ 64) (h1 : 1 ≤ t) (h2 : t ≤ gs) :
    Calls Try.prog 7 #[.pointer (some ⟨l, 0, none⟩), .int .i64 t] w fun e w' => e = .returned (.bool (!p t)) ∧ Stepped w w' l gm gs (n + 1) (addI p t) := by
  cases hp : p t with
  | false => exact suspend_yes h hn t hg h1 h2 hp
  | true =>
    refine (suspend_no h t ⟨by omega, by omega⟩ (.inr hp)).mono ?_
    rintro e w' ⟨rfl, rfl⟩
    have h' := h.mono (Nat.le_succ n)
    exact ⟨rfl, ⟨c, h'.set_.le, by rw [add_same hp]; exact h'⟩, ⟨rfl, rfl, rfl, Nat.le_refl _, fun _ _ _ => rfl⟩⟩
theorem lresume_in {w : World} {l gm n c : Nat} {gs : Int} {p : Int → Bool} (h : LogIs w l gm gs n p c) (t : Int) (ht : I64 t) :
    Calls Try.prog 8 #[.pointer (some ⟨l, 0, none⟩), .int .i64 t] w fun e w' => e = .returned (.bool (p t)) ∧ Stepped w w' l gm gs (n + 1) (subI p t) := by
  cases hp : p t with
  | true =>
    refine (lresume_yes h t ht hp).mono ?_
    rintro e w' ⟨rfl, ⟨c', hc, h'⟩, hg⟩
    exact ⟨rfl, ⟨c', by omega, h'.mono (Nat.le_succ n)⟩, hg⟩
  | false =>
    refine (lresume_no h t ht hp).mono ?_
    rintro e w' ⟨rfl, rfl⟩
    have h' := h.mono (Nat.le_succ n)
    exact ⟨rfl, ⟨c, h'.set_.le, by rw [sub_same hp]; exact h'⟩, ⟨rfl, rfl, rfl, Nat.le_refl _, fun _ _ _ => rfl⟩⟩
end Go.Proofs.Ytndidpeklbllpaa

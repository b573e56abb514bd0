/-
  Chapter 14: Step of a task in memory is an access of the task in plain (printed by wip/gentia.py).
-/
import Derived.Test.YthnhjhlpimgkiaaTin14
namespace Go.Proofs.Ythnhjhlpimgkiaa
open Go.RowKit
section
variable {w : World} {Q : Nat → Prop} {gt gr gc gl kc size cnt : Nat} {ex : List Value} {xs : List Int} {P : Pt} {A G : Option Addr} {c m e : Nat}
theorem getD_at (xs : List Int) (i : Nat) (h : i < xs.length) : xs.getD i 0 = xs[i] := by simp [List.getD, h]
theorem TM.up (I : TM w Q gt gr gc gl kc ex size xs cnt P A c G m e) (hs : P.steps < 900) : M14 (w.setCell ⟨gt, 9, none⟩ (.int .i64 (((tk P A c G m e).steps : Int) + 1))) gt gr gc gl kc ex size xs cnt (tk P.up A c G m e) :=
  I.mem.stepped (show P.steps < _ by omega)
theorem mv9 (w : World) (gt gc gl : Nat) (v : Value) : Mv [gc, gl, gt] w (w.setCell ⟨gt, 9, none⟩ v) := (Mv.refl _ _).set _ _ (by simp)
theorem Mv.more {w w' : World} {gt gc gl : Nat} (h : Mv [gc, gl, gt] w w') (A : Option Addr) : Mv ([gc, gl, gt] ++ (ob A).toList) w w' := h.mono (by intro k hk _; simp at hk ⊢; omega)
/-- What a Step gives. -/
def SO (w : World) (Q : Nat → Prop) (gt gr gc gl kc : Nat) (ex : List Value) (size : Nat) (xs : List Int) (cnt : Nat) (P : Pt) (A : Option Addr) (a : Ac) (w' : World) : Prop :=
  TI w' (Qn Q w) gt gr gc gl kc ex size (acc size xs P.up a).1 (cnt + 1) (acc size xs P.up a).2 ∧ Mv ([gc, gl, gt] ++ (ob A).toList) w w'
theorem st_putLoad (I : TM w Q gt gr gc gl kc ex size xs cnt P A c G m e) (hd : P.d = some .putLoad) (hs : P.steps < 900) (hb : cnt < 890000) :
    Calls Try.prog 13 #[.pointer (some ⟨gt, 0, none⟩)] w fun e w' => e = .returned (.bool true) ∧ SO w Q gt gr gc gl kc ex size xs cnt P A .putLoad w' := by
  have HM := I.up hs
  have hn : P.d ≠ none := by rw [hd]; exact Option.some_ne_none _
  have hL := I.mem.fits.2
  have hS := I.mem.fits.1
  have h9 := mv9 w gt gc gl (.int .i64 (((tk P A c G m e).steps : Int) + 1))
  have e2 := getD_at xs 2 (by omega)
  refine mstep_putLoad I.mem.task (by simp only [tk, hd]; rfl) (show P.steps < _ by omega) ((putLoad_any HM (by omega) (by omega)).mono ?_)
  rintro e w' ⟨rfl, hM, hV⟩
  refine ⟨rfl, ?_, (h9.trans hV).more A⟩
  rw [← e2] at hM
  exact ti_same I hn (h9.trans hV) (by simp only [acc, tk, Pt.up] at hM ⊢; exact hM) (by simp only [acc, Pt.up]) (by simp only [acc, Pt.up]) (Nat.le_of_lt (by simp only [acc, Pt.up]; omega))
theorem st_putHead (I : TM w Q gt gr gc gl kc ex size xs cnt P A c G m e) (hd : P.d = some .putHead) (hs : P.steps < 900) (hb : cnt < 890000) :
    Calls Try.prog 13 #[.pointer (some ⟨gt, 0, none⟩)] w fun e w' => e = .returned (.bool true) ∧ SO w Q gt gr gc gl kc ex size xs cnt P A .putHead w' := by
  have HM := I.up hs
  have hn : P.d ≠ none := by rw [hd]; exact Option.some_ne_none _
  have hL := I.mem.fits.2
  have hS := I.mem.fits.1
  have h9 := mv9 w gt gc gl (.int .i64 (((tk P A c G m e).steps : Int) + 1))
  have e0 := getD_at xs 0 (by omega)
  refine mstep_putHead I.mem.task (by simp only [tk, hd]; rfl) (show P.steps < _ by omega) ((putHead_any HM (by omega) (by omega)).mono ?_)
  rintro e w' ⟨rfl, hM, hV⟩
  refine ⟨rfl, ?_, (h9.trans hV).more A⟩
  rw [← e0] at hM
  exact ti_same I hn (h9.trans hV) (by simp only [acc, tk, Pt.up] at hM ⊢; exact hM) (by simp only [acc, Pt.up]) (by simp only [acc, Pt.up]) (Nat.le_of_lt (by simp only [acc, Pt.up]; omega))
theorem st_getHead (I : TM w Q gt gr gc gl kc ex size xs cnt P A c G m e) (hd : P.d = some .getHead) (hs : P.steps < 900) (hb : cnt < 890000) :
    Calls Try.prog 13 #[.pointer (some ⟨gt, 0, none⟩)] w fun e w' => e = .returned (.bool true) ∧ SO w Q gt gr gc gl kc ex size xs cnt P A .getHead w' := by
  have HM := I.up hs
  have hn : P.d ≠ none := by rw [hd]; exact Option.some_ne_none _
  have hL := I.mem.fits.2
  have hS := I.mem.fits.1
  have h9 := mv9 w gt gc gl (.int .i64 (((tk P A c G m e).steps : Int) + 1))
  have e0 := getD_at xs 0 (by omega)
  refine mstep_getHead I.mem.task (by simp only [tk, hd]; rfl) (show P.steps < _ by omega) ((getHead_any HM (by omega) (by omega)).mono ?_)
  rintro e w' ⟨rfl, hM, hV⟩
  refine ⟨rfl, ?_, (h9.trans hV).more A⟩
  rw [← e0] at hM
  exact ti_same I hn (h9.trans hV) (by simp only [acc, tk, Pt.up] at hM ⊢; exact hM) (by simp only [acc, Pt.up]) (by simp only [acc, Pt.up]) (Nat.le_of_lt (by simp only [acc, Pt.up]; omega))
theorem st_grabHead (I : TM w Q gt gr gc gl kc ex size xs cnt P A c G m e) (hd : P.d = some .grabHead) (hs : P.steps < 900) (hb : cnt < 890000) :
    Calls Try.prog 13 #[.pointer (some ⟨gt, 0, none⟩)] w fun e w' => e = .returned (.bool true) ∧ SO w Q gt gr gc gl kc ex size xs cnt P A .grabHead w' := by
  have HM := I.up hs
  have hn : P.d ≠ none := by rw [hd]; exact Option.some_ne_none _
  have hL := I.mem.fits.2
  have hS := I.mem.fits.1
  have h9 := mv9 w gt gc gl (.int .i64 (((tk P A c G m e).steps : Int) + 1))
  have e0 := getD_at xs 0 (by omega)
  refine mstep_grabHead I.mem.task (by simp only [tk, hd]; rfl) (show P.steps < _ by omega) ((grabHead_any HM (by omega) (by omega)).mono ?_)
  rintro e w' ⟨rfl, hM, hV⟩
  refine ⟨rfl, ?_, (h9.trans hV).more A⟩
  rw [← e0] at hM
  exact ti_same I hn (h9.trans hV) (by simp only [acc, tk, Pt.up] at hM ⊢; exact hM) (by simp only [acc, Pt.up]) (by simp only [acc, Pt.up]) (Nat.le_of_lt (by simp only [acc, Pt.up]; omega))
theorem st_getLoad (I : TM w Q gt gr gc gl kc ex size xs cnt P A c G m e) (hd : P.d = some .getLoad) (hs : P.steps < 900) (hb : cnt < 890000) :
    Calls Try.prog 13 #[.pointer (some ⟨gt, 0, none⟩)] w fun e w' => e = .returned (.bool true) ∧ SO w Q gt gr gc gl kc ex size xs cnt P A .getLoad w' := by
  have HM := I.up hs
  have hn : P.d ≠ none := by rw [hd]; exact Option.some_ne_none _
  have hL := I.mem.fits.2
  have hS := I.mem.fits.1
  have h9 := mv9 w gt gc gl (.int .i64 (((tk P A c G m e).steps : Int) + 1))
  have e2 := getD_at xs 2 (by omega)
  refine mstep_getLoad I.mem.task (by simp only [tk, hd]; rfl) (show P.steps < _ by omega) ((getLoad_any HM (by omega) (by omega)).mono ?_)
  rintro e w' ⟨rfl, hM, hV⟩
  refine ⟨rfl, ?_, (h9.trans hV).more A⟩
  rw [← e2] at hM
  by_cases hz : xs.getD 2 0 = 0
  · exact ti_same I hn (h9.trans hV) (by simp only [acc, tk, Pt.up, if_pos hz] at hM ⊢; exact hM) (by simp only [acc, Pt.up, if_pos hz]) (by simp only [acc, Pt.up, if_pos hz]) (Nat.le_of_lt (by simp only [acc, Pt.up, if_pos hz]; omega))
  · exact ti_same I hn (h9.trans hV) (by simp only [acc, tk, Pt.up, if_neg hz] at hM ⊢; exact hM) (by simp only [acc, Pt.up, if_neg hz]) (by simp only [acc, Pt.up, if_neg hz]) (Nat.le_of_lt (by simp only [acc, Pt.up, if_neg hz]; omega))
theorem st_putNext (I : TM w Q gt gr gc gl kc ex size xs cnt P A c G m e) (hd : P.d = some .putNext) (hs : P.steps < 900) (hb : cnt < 890000) :
    Calls Try.prog 13 #[.pointer (some ⟨gt, 0, none⟩)] w fun e w' => e = .returned (.bool true) ∧ SO w Q gt gr gc gl kc ex size xs cnt P A .putNext w' := by
  have HM := I.up hs
  have hn : P.d ≠ none := by rw [hd]; exact Option.some_ne_none _
  have hL := I.mem.fits.2
  have hS := I.mem.fits.1
  have h9 := mv9 w gt gc gl (.int .i64 (((tk P A c G m e).steps : Int) + 1))
  have e2 := getD_at xs 2 (by omega)
  refine mstep_putNext I.mem.task (by simp only [tk, hd]; rfl) (show P.steps < _ by omega) ((putNext_any HM (by omega) (by omega)).mono ?_)
  rintro e w' ⟨rfl, hM, hV⟩
  refine ⟨rfl, ?_, (h9.trans hV).more A⟩
  rw [← e2] at hM
  by_cases h1 : xs.getD 2 0 = P.old
  · have k1 : xs.getD 2 0 = (tk P.up A c G m e).old := h1
    have k2 : xs.getD 2 0 = P.up.old := h1
    rw [if_pos k1, if_pos k1] at hM
    by_cases h2 : P.old = 0
    · have k3 : (tk P.up A c G m e).old = 0 := h2
      have k4 : P.up.old = 0 := h2
      rw [if_pos k3] at hM
      simp only [acc, if_pos k2, if_pos k4]
      exact ti_end I hn (h9.trans hV) hM rfl rfl (Nat.le_succ _)
    · have k3 : ¬ (tk P.up A c G m e).old = 0 := h2
      have k4 : ¬ P.up.old = 0 := h2
      rw [if_neg k3] at hM
      simp only [acc, if_pos k2, if_neg k4]
      exact ti_same I hn (h9.trans hV) hM rfl rfl (Nat.le_succ _)
  · have k1 : ¬ xs.getD 2 0 = (tk P.up A c G m e).old := h1
    have k2 : ¬ xs.getD 2 0 = P.up.old := h1
    rw [if_neg k1, if_neg k1] at hM
    simp only [acc, if_neg k2]
    exact ti_same I hn (h9.trans hV) hM rfl rfl (Nat.le_succ _)
theorem st_putTail (I : TM w Q gt gr gc gl kc ex size xs cnt P A c G m e) (hd : P.d = some .putTail) (hs : P.steps < 900) (hb : cnt < 890000) :
    Calls Try.prog 13 #[.pointer (some ⟨gt, 0, none⟩)] w fun e w' => e = .returned (.bool true) ∧ SO w Q gt gr gc gl kc ex size xs cnt P A .putTail w' := by
  have HM := I.up hs
  have hn : P.d ≠ none := by rw [hd]; exact Option.some_ne_none _
  have hL := I.mem.fits.2
  have hS := I.mem.fits.1
  have h9 := mv9 w gt gc gl (.int .i64 (((tk P A c G m e).steps : Int) + 1))
  have e1 := getD_at xs 1 (by omega)
  refine mstep_putTail I.mem.task (by simp only [tk, hd]; rfl) (show P.steps < _ by omega) ((putTail_any HM (by omega) (by omega)).mono ?_)
  rintro e w' ⟨rfl, hM, hV⟩
  refine ⟨rfl, ?_, (h9.trans hV).more A⟩
  rw [← e1] at hM
  by_cases h1 : gap xs P < size
  · have h2 : u ((u (xs.getD 1 0) : Int) - (tk P.up A c G m e).head) < size := h1
    have h3 : gap xs P.up < size := h1
    rw [if_pos h2] at hM
    simp only [acc, if_pos h3]
    exact ti_same I hn (h9.trans hV) hM rfl rfl (Nat.le_succ _)
  · have h2 : ¬ u ((u (xs.getD 1 0) : Int) - (tk P.up A c G m e).head) < size := h1
    have h3 : ¬ gap xs P.up < size := h1
    rw [if_neg h2] at hM
    simp only [acc, if_neg h3]
    exact ti_fresh I hn (h9.trans hV) hM rfl rfl
theorem st_putCell (I : TM w Q gt gr gc gl kc ex size xs cnt P A c G m e) (hd : P.d = some .putCell) (hs : P.steps < 900) (hb : cnt < 890000) :
    Calls Try.prog 13 #[.pointer (some ⟨gt, 0, none⟩)] w fun e w' => e = .returned (.bool true) ∧ SO w Q gt gr gc gl kc ex size xs cnt P A .putCell w' := by
  have HM := I.up hs
  have hn : P.d ≠ none := by rw [hd]; exact Option.some_ne_none _
  have hL := I.mem.fits.2
  have hS := I.mem.fits.1
  have h9 := mv9 w gt gc gl (.int .i64 (((tk P A c G m e).steps : Int) + 1))
  refine mstep_putCell I.mem.task (by simp only [tk, hd]; rfl) (show P.steps < _ by omega) ((putCell_any HM (by omega)).mono ?_)
  rintro e w' ⟨rfl, hM, hV⟩
  refine ⟨rfl, ?_, (h9.trans hV).more A⟩
  exact ti_same I hn (h9.trans hV) hM rfl rfl (Nat.le_succ _)
theorem st_putDone (I : TM w Q gt gr gc gl kc ex size xs cnt P A c G m e) (hd : P.d = some .putDone) (hs : P.steps < 900) (hb : cnt < 890000) :
    Calls Try.prog 13 #[.pointer (some ⟨gt, 0, none⟩)] w fun e w' => e = .returned (.bool true) ∧ SO w Q gt gr gc gl kc ex size xs cnt P A .putDone w' := by
  have HM := I.up hs
  have hn : P.d ≠ none := by rw [hd]; exact Option.some_ne_none _
  have hL := I.mem.fits.2
  have hS := I.mem.fits.1
  have h9 := mv9 w gt gc gl (.int .i64 (((tk P A c G m e).steps : Int) + 1))
  refine mstep_putDone I.mem.task (by simp only [tk, hd]; rfl) (show P.steps < _ by omega) ((putDone_any HM (by omega)).mono ?_)
  rintro e w' ⟨rfl, hM, hV⟩
  refine ⟨rfl, ?_, (h9.trans hV).more A⟩
  exact ti_end I hn (h9.trans hV) hM rfl rfl (Nat.le_succ _)
theorem st_getTail (I : TM w Q gt gr gc gl kc ex size xs cnt P A c G m e) (hd : P.d = some .getTail) (hs : P.steps < 900) (hb : cnt < 890000) :
    Calls Try.prog 13 #[.pointer (some ⟨gt, 0, none⟩)] w fun e w' => e = .returned (.bool true) ∧ SO w Q gt gr gc gl kc ex size xs cnt P A .getTail w' := by
  have HM := I.up hs
  have hn : P.d ≠ none := by rw [hd]; exact Option.some_ne_none _
  have hL := I.mem.fits.2
  have hS := I.mem.fits.1
  have h9 := mv9 w gt gc gl (.int .i64 (((tk P A c G m e).steps : Int) + 1))
  have e1 := getD_at xs 1 (by omega)
  refine mstep_getTail I.mem.task (by simp only [tk, hd]; rfl) (show P.steps < _ by omega) ((getTail_any HM (by omega) (by omega)).mono ?_)
  rintro e w' ⟨rfl, hM, hV⟩
  refine ⟨rfl, ?_, (h9.trans hV).more A⟩
  rw [← e1] at hM
  by_cases h1 : u (xs.getD 1 0) = P.head
  · have k1 : u (xs.getD 1 0) = (tk P.up A c G m e).head := h1
    have k2 : u (xs.getD 1 0) = P.up.head := h1
    rw [if_pos k1] at hM
    simp only [acc, if_pos k2]
    exact ti_end I hn (h9.trans hV) hM rfl rfl (Nat.le_succ _)
  · have k1 : ¬ u (xs.getD 1 0) = (tk P.up A c G m e).head := h1
    have k2 : ¬ u (xs.getD 1 0) = P.up.head := h1
    rw [if_neg k1] at hM
    simp only [acc, if_neg k2]
    exact ti_same I hn (h9.trans hV) hM rfl rfl (Nat.le_succ _)
theorem st_getCell (I : TM w Q gt gr gc gl kc ex size xs cnt P A c G m e) (hd : P.d = some .getCell) (hs : P.steps < 900) (hb : cnt < 890000) :
    Calls Try.prog 13 #[.pointer (some ⟨gt, 0, none⟩)] w fun e w' => e = .returned (.bool true) ∧ SO w Q gt gr gc gl kc ex size xs cnt P A .getCell w' := by
  have HM := I.up hs
  have hn : P.d ≠ none := by rw [hd]; exact Option.some_ne_none _
  have hL := I.mem.fits.2
  have hS := I.mem.fits.1
  have h9 := mv9 w gt gc gl (.int .i64 (((tk P A c G m e).steps : Int) + 1))
  have hi : 3 + P.head % size < xs.length := by
    have := Nat.mod_lt P.head (show 0 < size by omega)
    omega
  have ei := getD_at xs _ hi
  refine mstep_getCell I.mem.task (by simp only [tk, hd]; rfl) (show P.steps < _ by omega) ((getCell_any HM (by omega) hi).mono ?_)
  rintro e w' ⟨rfl, hM, hV⟩
  refine ⟨rfl, ?_, (h9.trans hV).more A⟩
  have hM : M14 w' gt gr gc gl kc ex size xs (cnt + 1) { tk P.up A c G m e with old := xs[3 + P.head % size], d := some 71 } := hM
  rw [← ei] at hM
  exact ti_same I hn (h9.trans hV) hM rfl rfl (Nat.le_succ _)
theorem st_grabTail (I : TM w Q gt gr gc gl kc ex size xs cnt P A c G m e) (hd : P.d = some .grabTail) (hs : P.steps < 900) (hb : cnt < 890000) :
    Calls Try.prog 13 #[.pointer (some ⟨gt, 0, none⟩)] w fun e w' => e = .returned (.bool true) ∧ SO w Q gt gr gc gl kc ex size xs cnt P A .grabTail w' := by
  have HM := I.up hs
  have hn : P.d ≠ none := by rw [hd]; exact Option.some_ne_none _
  have hL := I.mem.fits.2
  have hS := I.mem.fits.1
  have h9 := mv9 w gt gc gl (.int .i64 (((tk P A c G m e).steps : Int) + 1))
  have e1 := getD_at xs 1 (by omega)
  refine mstep_grabTail I.mem.task (by simp only [tk, hd]; rfl) (show P.steps < _ by omega) ((grabTail_any HM (by omega) (by omega) (gap xs P) (gap xs P - gap xs P / 2) (by rw [← e1]; rfl) rfl).mono ?_)
  rintro e w' ⟨rfl, hM, hV⟩
  refine ⟨rfl, ?_, (h9.trans hV).more A⟩
  rw [← e1] at hM
  refine ti_fresh I hn (h9.trans hV) ?_ rfl rfl
  by_cases h1 : gap xs P = 0
  · have h3 : gap xs P.up = 0 := h1
    simp only [tk, Pt.up, if_pos h1] at hM
    simp only [acc, if_pos h3]
    exact hM
  · have h3 : ¬ gap xs P.up = 0 := h1
    by_cases h2 : size / 2 < gap xs P - gap xs P / 2
    · have h4 : size / 2 < gap xs P.up - gap xs P.up / 2 := h2
      simp only [tk, Pt.up, if_neg h1, if_pos h2] at hM
      simp only [acc, if_neg h3, if_pos h4]
      exact hM
    · have h4 : ¬ size / 2 < gap xs P.up - gap xs P.up / 2 := h2
      simp only [tk, Pt.up, if_neg h1, if_neg h2] at hM
      simp only [acc, if_neg h3, if_neg h4]
      exact hM
theorem st_grabLoad (I : TM w Q gt gr gc gl kc ex size xs cnt P A c G m e) (hd : P.d = some .grabLoad) (hs : P.steps < 900) (hb : cnt < 890000) :
    Calls Try.prog 13 #[.pointer (some ⟨gt, 0, none⟩)] w fun e w' => e = .returned (.bool true) ∧ SO w Q gt gr gc gl kc ex size xs cnt P A .grabLoad w' := by
  have HM := I.up hs
  have hn : P.d ≠ none := by rw [hd]; exact Option.some_ne_none _
  have hL := I.mem.fits.2
  have hS := I.mem.fits.1
  have h9 := mv9 w gt gc gl (.int .i64 (((tk P A c G m e).steps : Int) + 1))
  have e2 := getD_at xs 2 (by omega)
  refine mstep_grabLoad I.mem.task (by simp only [tk, hd]; rfl) (show P.steps < _ by omega) ((grabLoad_any HM (by omega) (by omega)).mono ?_)
  rintro e w' ⟨rfl, hM, hV⟩
  refine ⟨rfl, ?_, (h9.trans hV).more A⟩
  rw [← e2] at hM
  by_cases h1 : xs.getD 2 0 = 0
  · rw [if_pos h1] at hM
    refine ti_end I hn (h9.trans hV) (P' := (acc size xs P.up .grabLoad).2) ?_ ?_ ?_ ?_
    all_goals simp only [acc, if_pos h1]
    · exact hM
    · rfl
    · exact Nat.le_succ _
  · rw [if_neg h1] at hM
    refine ti_same I hn (h9.trans hV) (P' := (acc size xs P.up .grabLoad).2) ?_ ?_ ?_ ?_
    all_goals simp only [acc, if_neg h1]
    · exact hM
    · rfl
    · rfl
    · exact Nat.le_succ _
theorem st_getNext (I : TM w Q gt gr gc gl kc ex size xs cnt P A c G m e) (hd : P.d = some .getNext) (hs : P.steps < 900) (hb : cnt < 890000) :
    Calls Try.prog 13 #[.pointer (some ⟨gt, 0, none⟩)] w fun e w' => e = .returned (.bool true) ∧ SO w Q gt gr gc gl kc ex size xs cnt P A .getNext w' := by
  have HM := I.up hs
  have hn : P.d ≠ none := by rw [hd]; exact Option.some_ne_none _
  have hL := I.mem.fits.2
  have hS := I.mem.fits.1
  have h9 := mv9 w gt gc gl (.int .i64 (((tk P A c G m e).steps : Int) + 1))
  have e2 := getD_at xs 2 (by omega)
  refine mstep_getNext I.mem.task (by simp only [tk, hd]; rfl) (show P.steps < _ by omega) ((getNext_any HM (by omega) (by omega)).mono ?_)
  rintro e w' ⟨rfl, hV, hM⟩
  refine ⟨rfl, ?_, (h9.trans hV).more A⟩
  rw [← e2] at hM
  by_cases h1 : xs.getD 2 0 = P.old
  · have h2 : xs.getD 2 0 = (tk P.up A c G m e).old := h1
    have h3 : xs.getD 2 0 = P.up.old := h1
    rw [if_pos h2] at hM
    obtain ⟨v, hg, hM⟩ := hM
    simp only [acc, if_pos h3]
    exact ti_got I hn (by simp [World.setCell]) (h9.trans hV) [P.old] v hg _ hM (fun G' m' e' he => by subst he; rfl) rfl rfl (Nat.le_succ _) rfl
  · have h2 : ¬ xs.getD 2 0 = (tk P.up A c G m e).old := h1
    have h3 : ¬ xs.getD 2 0 = P.up.old := h1
    rw [if_neg h2] at hM
    simp only [acc, if_neg h3]
    exact ti_same I hn (h9.trans hV) hM rfl rfl (Nat.le_succ _)
theorem st_grabNext (I : TM w Q gt gr gc gl kc ex size xs cnt P A c G m e) (hd : P.d = some .grabNext) (hs : P.steps < 900) (hb : cnt < 890000) :
    Calls Try.prog 13 #[.pointer (some ⟨gt, 0, none⟩)] w fun e w' => e = .returned (.bool true) ∧ SO w Q gt gr gc gl kc ex size xs cnt P A .grabNext w' := by
  have HM := I.up hs
  have hn : P.d ≠ none := by rw [hd]; exact Option.some_ne_none _
  have hL := I.mem.fits.2
  have hS := I.mem.fits.1
  have h9 := mv9 w gt gc gl (.int .i64 (((tk P A c G m e).steps : Int) + 1))
  have e2 := getD_at xs 2 (by omega)
  refine mstep_grabNext I.mem.task (by simp only [tk, hd]; rfl) (show P.steps < _ by omega) ((grabNext_any HM (by omega) (by omega)).mono ?_)
  rintro e w' ⟨rfl, hV, hM⟩
  refine ⟨rfl, ?_, (h9.trans hV).more A⟩
  rw [← e2] at hM
  by_cases h1 : xs.getD 2 0 = P.old
  · have h2 : xs.getD 2 0 = (tk P.up A c G m e).old := h1
    have h3 : xs.getD 2 0 = P.up.old := h1
    rw [if_pos h2] at hM
    obtain ⟨v, hg, hM⟩ := hM
    simp only [acc, if_pos h3]
    exact ti_got I hn (by simp [World.setCell]) (h9.trans hV) [P.old] v hg _ hM (fun G' m' e' he => by subst he; rfl) rfl rfl (Nat.le_succ _) rfl
  · have h2 : ¬ xs.getD 2 0 = (tk P.up A c G m e).old := h1
    have h3 : ¬ xs.getD 2 0 = P.up.old := h1
    rw [if_neg h2] at hM
    simp only [acc, if_neg h3]
    exact ti_same I hn (h9.trans hV) hM rfl rfl (Nat.le_succ _)
theorem st_getDone (I : TM w Q gt gr gc gl kc ex size xs cnt P A c G m e) (hd : P.d = some .getDone) (hs : P.steps < 900) (hb : cnt < 890000) :
    Calls Try.prog 13 #[.pointer (some ⟨gt, 0, none⟩)] w fun e w' => e = .returned (.bool true) ∧ SO w Q gt gr gc gl kc ex size xs cnt P A .getDone w' := by
  have HM := I.up hs
  have hn : P.d ≠ none := by rw [hd]; exact Option.some_ne_none _
  have hL := I.mem.fits.2
  have hS := I.mem.fits.1
  have h9 := mv9 w gt gc gl (.int .i64 (((tk P A c G m e).steps : Int) + 1))
  have e0 := getD_at xs 0 (by omega)
  refine mstep_getDone I.mem.task (by simp only [tk, hd]; rfl) (show P.steps < _ by omega) ((getDone_any HM (by omega) (by omega)).mono ?_)
  rintro e w' ⟨rfl, hV, hM⟩
  refine ⟨rfl, ?_, (h9.trans hV).more A⟩
  rw [← e0] at hM
  by_cases h1 : xs.getD 0 0 = (P.head : Int)
  · have h2 : xs.getD 0 0 = (tk P.up A c G m e).head := h1
    have h3 : xs.getD 0 0 = P.up.head := h1
    rw [if_pos h2] at hM
    obtain ⟨v, hg, hM⟩ := hM
    simp only [acc, if_pos h3]
    exact ti_got I hn (by simp [World.setCell]) (h9.trans hV) [P.old] v hg _ hM (fun G' m' e' he => by subst he; rfl) rfl rfl (Nat.le_succ _) rfl
  · have h2 : ¬ xs.getD 0 0 = (tk P.up A c G m e).head := h1
    have h3 : ¬ xs.getD 0 0 = P.up.head := h1
    rw [if_neg h2] at hM
    simp only [acc, if_neg h3]
    exact ti_same I hn (h9.trans hV) hM rfl rfl (Nat.le_succ _)
theorem st_grabDone (I : TM w Q gt gr gc gl kc ex size xs cnt P A c G m e) (hd : P.d = some .grabDone) (hs : P.steps < 900) (hb : cnt < 890000) :
    Calls Try.prog 13 #[.pointer (some ⟨gt, 0, none⟩)] w fun e w' => e = .returned (.bool true) ∧ SO w Q gt gr gc gl kc ex size xs cnt P A .grabDone w' := by
  have HM := I.up hs
  have hn : P.d ≠ none := by rw [hd]; exact Option.some_ne_none _
  have hL := I.mem.fits.2
  have hS := I.mem.fits.1
  have h9 := mv9 w gt gc gl (.int .i64 (((tk P A c G m e).steps : Int) + 1))
  have e0 := getD_at xs 0 (by omega)
  refine mstep_grabDone I.mem.task (by simp only [tk, hd]; rfl) (show P.steps < _ by omega) ((grabDone_any HM (by omega) (by omega) A P.bs.length c rfl).mono ?_)
  rintro e w' ⟨rfl, hV, hM⟩
  refine ⟨rfl, ?_, (h9.trans hV).more A⟩
  rw [← e0] at hM
  by_cases h1 : xs.getD 0 0 = (P.head : Int)
  · have h2 : xs.getD 0 0 = (tk P.up A c G m e).head := h1
    have h3 : xs.getD 0 0 = P.up.head := h1
    rw [if_pos h2] at hM
    simp only [acc, if_pos h3]
    have hO := own_mv (I.buf hn) (h9.trans hV) (I.bufFar hn).out
    exact ti_mk I hn (P' := { P.up with d := none, gs := P.up.bs }) (A' := A) (c' := c) (G' := A) (m' := P.bs.length) (e' := c) hM (fun _ => hO) hO (fun b hb => .inl hb) (fun b hb => .inr (.inl hb)) (Nat.le_trans I.few (Nat.le_succ _)) (fun h => absurd rfl h)
  · have h2 : ¬ xs.getD 0 0 = (tk P.up A c G m e).head := h1
    have h3 : ¬ xs.getD 0 0 = P.up.head := h1
    rw [if_neg h2] at hM
    simp only [acc, if_neg h3]
    exact ti_same I hn (h9.trans hV) hM rfl rfl (Nat.le_succ _)
theorem st_spill (I : TM w Q gt gr gc gl kc ex size xs cnt P A c G m e) (hd : P.d = some .spill) (hs : P.steps < 900) (hb : cnt < 890000) :
    Calls Try.prog 13 #[.pointer (some ⟨gt, 0, none⟩)] w fun e w' => e = .returned (.bool true) ∧ SO w Q gt gr gc gl kc ex size xs cnt P A .spill w' := by
  have HM := I.up hs
  have hn : P.d ≠ none := by rw [hd]; exact Option.some_ne_none _
  have hL := I.mem.fits.2
  have hS := I.mem.fits.1
  have h9 := mv9 w gt gc gl (.int .i64 (((tk P A c G m e).steps : Int) + 1))
  have hi : 3 + u ((P.head : Int) + P.bs.length) % size < xs.length := by
    have := Nat.mod_lt (u ((P.head : Int) + P.bs.length)) (show 0 < size by omega)
    omega
  have ei := getD_at xs _ hi
  have hO := own_mv (I.buf hn) h9 (I.bufFar hn).out
  have hG := own_mv I.got h9 I.gotFar.out
  have hf := I.few
  refine mstep_spill I.mem.task (by simp only [tk, hd]; rfl) (show P.steps < _ by omega) (spill_of ((take_any HM (by omega) 65 A P.bs.length c 0 P.bs rfl hO (Nat.zero_le _) (by omega) (I.bufFar hn) _ rfl hi).mono ?_))
  rintro e w' ⟨rfl, A', c', hM, hO', hV, hA⟩
  have hV2 : Mv ([gc, gl, gt] ++ (ob A).toList) w w' := (h9.more A).trans hV
  refine ⟨rfl, ?_, hV2⟩
  have ho := I.hot hn
  have hG' := own_mv I.got hV2 (by intro b hb; rw [ho] at hb; cases hb)
  have hl : (P.bs ++ [nextCell size xs P]).length = P.bs.length + 1 := by simp
  have en : nextCell size xs P = xs[3 + u ((P.head : Int) + P.bs.length) % size] := ei
  have hA2 : ∀ b, ob A' = some b → ob A = some b ∨ w.heap.size ≤ b := by
    intro b hb
    rcases hA with h | ⟨b2, h, h2⟩
    · exact .inl (h ▸ hb)
    · rw [h] at hb
      injection hb with hb
      exact .inr (by rw [← hb]; simpa [World.setCell] using h2)
  have hO' : Own w' 0 2 1 A' (P.bs.length + 1) c' (ints (P.bs ++ [xs[3 + u ((P.head : Int) + P.bs.length) % size]])) := hO'
  rw [← en] at hO'
  by_cases hq : P.bs.length + 1 = P.many
  · have k1 : P.bs.length + 1 = (tk P.up A c G m e).many := hq
    have k2 : P.up.bs.length + 1 = P.up.many := hq
    rw [if_pos k1] at hM
    simp only [acc, if_pos k2]
    refine ti_mk I hn (A' := A') (c' := c') (G' := G) (m' := m) (e' := e) ?_ ?_ hG' hA2 (fun b hb => .inl hb) ?_ (fun _ => ho)
    · show M14 _ _ _ _ _ _ _ _ _ _ ⟨_, _, _, _, _, _, .slice A' (P.bs ++ [nextCell size xs P]).length c', _, _⟩
      rw [hl]
      exact hM
    · intro _
      show Own _ _ _ _ _ (P.bs ++ [nextCell size xs P]).length _ _
      rw [hl]
      exact hO'
    · show (P.bs ++ [nextCell size xs P]).length ≤ P.steps + 1
      omega
  · have k1 : ¬ P.bs.length + 1 = (tk P.up A c G m e).many := hq
    have k2 : ¬ P.up.bs.length + 1 = P.up.many := hq
    rw [if_neg k1] at hM
    have hdd : (tk P.up A c G m e).d = some 56 := by show P.d.map _ = _; rw [hd]; rfl
    rw [hdd] at hM
    simp only [acc, if_neg k2]
    refine ti_mk I hn (A' := A') (c' := c') (G' := G) (m' := m) (e' := e) ?_ ?_ hG' hA2 (fun b hb => .inl hb) ?_ (fun _ => ho)
    · show M14 _ _ _ _ _ _ _ _ _ _ ⟨_, _, _, _, _, _, .slice A' (P.bs ++ [nextCell size xs P]).length c', _, _⟩
      rw [hl]
      exact hM
    · intro _
      show Own _ _ _ _ _ (P.bs ++ [nextCell size xs P]).length _ _
      rw [hl]
      exact hO'
    · show (P.bs ++ [nextCell size xs P]).length ≤ P.steps + 1
      omega
theorem st_grabCells (I : TM w Q gt gr gc gl kc ex size xs cnt P A c G m e) (hd : P.d = some .grabCells) (hs : P.steps < 900) (hb : cnt < 890000) :
    Calls Try.prog 13 #[.pointer (some ⟨gt, 0, none⟩)] w fun e w' => e = .returned (.bool true) ∧ SO w Q gt gr gc gl kc ex size xs cnt P A .grabCells w' := by
  have HM := I.up hs
  have hn : P.d ≠ none := by rw [hd]; exact Option.some_ne_none _
  have hL := I.mem.fits.2
  have hS := I.mem.fits.1
  have h9 := mv9 w gt gc gl (.int .i64 (((tk P A c G m e).steps : Int) + 1))
  have hi : 3 + u ((P.head : Int) + P.bs.length) % size < xs.length := by
    have := Nat.mod_lt (u ((P.head : Int) + P.bs.length)) (show 0 < size by omega)
    omega
  have ei := getD_at xs _ hi
  have hO := own_mv (I.buf hn) h9 (I.bufFar hn).out
  have hG := own_mv I.got h9 I.gotFar.out
  have hf := I.few
  refine mstep_grabCells I.mem.task (by simp only [tk, hd]; rfl) (show P.steps < _ by omega) (grabCells_of ((take_any HM (by omega) 69 A P.bs.length c 0 P.bs rfl hO (Nat.zero_le _) (by omega) (I.bufFar hn) _ rfl hi).mono ?_))
  rintro e w' ⟨rfl, A', c', hM, hO', hV, hA⟩
  have hV2 : Mv ([gc, gl, gt] ++ (ob A).toList) w w' := (h9.more A).trans hV
  refine ⟨rfl, ?_, hV2⟩
  have ho := I.hot hn
  have hG' := own_mv I.got hV2 (by intro b hb; rw [ho] at hb; cases hb)
  have hl : (P.bs ++ [nextCell size xs P]).length = P.bs.length + 1 := by simp
  have en : nextCell size xs P = xs[3 + u ((P.head : Int) + P.bs.length) % size] := ei
  have hA2 : ∀ b, ob A' = some b → ob A = some b ∨ w.heap.size ≤ b := by
    intro b hb
    rcases hA with h | ⟨b2, h, h2⟩
    · exact .inl (h ▸ hb)
    · rw [h] at hb
      injection hb with hb
      exact .inr (by rw [← hb]; simpa [World.setCell] using h2)
  have hO' : Own w' 0 2 1 A' (P.bs.length + 1) c' (ints (P.bs ++ [xs[3 + u ((P.head : Int) + P.bs.length) % size]])) := hO'
  rw [← en] at hO'
  by_cases hq : P.bs.length + 1 = P.many
  · have k1 : P.bs.length + 1 = (tk P.up A c G m e).many := hq
    have k2 : P.up.bs.length + 1 = P.up.many := hq
    rw [if_pos k1] at hM
    simp only [acc, if_pos k2]
    refine ti_mk I hn (A' := A') (c' := c') (G' := G) (m' := m) (e' := e) ?_ ?_ hG' hA2 (fun b hb => .inl hb) ?_ (fun _ => ho)
    · show M14 _ _ _ _ _ _ _ _ _ _ ⟨_, _, _, _, _, _, .slice A' (P.bs ++ [nextCell size xs P]).length c', _, _⟩
      rw [hl]
      exact hM
    · intro _
      show Own _ _ _ _ _ (P.bs ++ [nextCell size xs P]).length _ _
      rw [hl]
      exact hO'
    · show (P.bs ++ [nextCell size xs P]).length ≤ P.steps + 1
      omega
  · have k1 : ¬ P.bs.length + 1 = (tk P.up A c G m e).many := hq
    have k2 : ¬ P.up.bs.length + 1 = P.up.many := hq
    rw [if_neg k1] at hM
    have hdd : (tk P.up A c G m e).d = some 60 := by show P.d.map _ = _; rw [hd]; rfl
    rw [hdd] at hM
    simp only [acc, if_neg k2]
    refine ti_mk I hn (A' := A') (c' := c') (G' := G) (m' := m) (e' := e) ?_ ?_ hG' hA2 (fun b hb => .inl hb) ?_ (fun _ => ho)
    · show M14 _ _ _ _ _ _ _ _ _ _ ⟨_, _, _, _, _, _, .slice A' (P.bs ++ [nextCell size xs P]).length c', _, _⟩
      rw [hl]
      exact hM
    · intro _
      show Own _ _ _ _ _ (P.bs ++ [nextCell size xs P]).length _ _
      rw [hl]
      exact hO'
    · show (P.bs ++ [nextCell size xs P]).length ≤ P.steps + 1
      omega
theorem st_spillDone (I : TM w Q gt gr gc gl kc ex size xs cnt P A c G m e) (hd : P.d = some .spillDone) (hs : P.steps < 900) (hb : cnt < 890000) :
    Calls Try.prog 13 #[.pointer (some ⟨gt, 0, none⟩)] w fun e w' => e = .returned (.bool true) ∧ SO w Q gt gr gc gl kc ex size xs cnt P A .spillDone w' := by
  have HM := I.up hs
  have hn : P.d ≠ none := by rw [hd]; exact Option.some_ne_none _
  have hL := I.mem.fits.2
  have hS := I.mem.fits.1
  have h9 := mv9 w gt gc gl (.int .i64 (((tk P A c G m e).steps : Int) + 1))
  have e0 := getD_at xs 0 (by omega)
  have hO := own_mv (I.buf hn) h9 (I.bufFar hn).out
  have hf := I.few
  refine mstep_spillDone I.mem.task (by simp only [tk, hd]; rfl) (show P.steps < _ by omega) ((spillDone_any HM (by omega) (by omega) A P.bs.length c 0 P.bs rfl hO (Nat.zero_le _) (by omega) (I.bufFar hn)).mono ?_)
  rintro e w' ⟨rfl, hV, hM⟩
  have hV2 : Mv ([gc, gl, gt] ++ (ob A).toList) w w' := (h9.more A).trans hV
  refine ⟨rfl, ?_, hV2⟩
  have ho := I.hot hn
  rw [← e0] at hM
  by_cases h1 : xs.getD 0 0 = (P.head : Int)
  · have h2 : xs.getD 0 0 = (tk P.up A c G m e).head := h1
    have h3 : xs.getD 0 0 = P.up.head := h1
    rw [if_pos h2] at hM
    obtain ⟨A', c', hM, hO', hA⟩ := hM
    simp only [acc, if_pos h3]
    have hA2 : ∀ b, ob A' = some b → ob G = some b ∨ ob A = some b ∨ w.heap.size ≤ b := by
      intro b hb
      rcases hA with h | ⟨b2, h, h2⟩
      · exact .inr (.inl (h ▸ hb))
      · rw [h] at hb
        injection hb with hb
        exact .inr (.inr (by rw [← hb]; simpa [World.setCell] using h2))
    exact ti_mk I hn (P' := { P.up with d := none, gs := P.up.bs ++ [P.up.g] }) (A' := A) (c' := c) (G' := A') (m' := P.bs.length + 1) (e' := c') hM (fun h => absurd rfl h) hO' (fun b hb => .inl hb) hA2 (Nat.le_trans I.few (Nat.le_succ _)) (fun h => absurd rfl h)
  · have h2 : ¬ xs.getD 0 0 = (tk P.up A c G m e).head := h1
    have h3 : ¬ xs.getD 0 0 = P.up.head := h1
    rw [if_neg h2] at hM
    simp only [acc, if_neg h3]
    exact ti_same I hn (h9.trans hM.2) hM.1 rfl rfl (Nat.le_succ _)
/-- Step, whichever access is the next. -/
theorem st_any (I : TM w Q gt gr gc gl kc ex size xs cnt P A c G m e) (a : Ac) (hd : P.d = some a) (hs : P.steps < 900) (hb : cnt < 890000) :
    Calls Try.prog 13 #[.pointer (some ⟨gt, 0, none⟩)] w fun e w' => e = .returned (.bool true) ∧ SO w Q gt gr gc gl kc ex size xs cnt P A a w' := by
  cases a with
  | putLoad => exact st_putLoad I hd hs hb
  | putNext => exact st_putNext I hd hs hb
  | putHead => exact st_putHead I hd hs hb
  | putTail => exact st_putTail I hd hs hb
  | putCell => exact st_putCell I hd hs hb
  | putDone => exact st_putDone I hd hs hb
  | spill => exact st_spill I hd hs hb
  | spillDone => exact st_spillDone I hd hs hb
  | getLoad => exact st_getLoad I hd hs hb
  | getNext => exact st_getNext I hd hs hb
  | getHead => exact st_getHead I hd hs hb
  | getTail => exact st_getTail I hd hs hb
  | getCell => exact st_getCell I hd hs hb
  | getDone => exact st_getDone I hd hs hb
  | grabHead => exact st_grabHead I hd hs hb
  | grabTail => exact st_grabTail I hd hs hb
  | grabLoad => exact st_grabLoad I hd hs hb
  | grabNext => exact st_grabNext I hd hs hb
  | grabCells => exact st_grabCells I hd hs hb
  | grabDone => exact st_grabDone I hd hs hb
/-- Step: of a task in memory. -/
theorem step_any (I : TI w Q gt gr gc gl kc ex size xs cnt P) (a : Ac) (hd : P.d = some a) (hs : P.steps < 900) (hb : cnt < 890000) :
    Calls Try.prog 13 #[.pointer (some ⟨gt, 0, none⟩)] w fun e w' => e = .returned (.bool true) ∧ TI w' (Qn Q w) gt gr gc gl kc ex size (acc size xs P.up a).1 (cnt + 1) (acc size xs P.up a).2 ∧ ∃ L, Mv L w w' ∧ ∀ b ∈ L, b = gc ∨ b = gl ∨ Q b := by
  obtain ⟨A, c, G, m, e, I⟩ := I
  refine (st_any I a hd hs hb).mono ?_
  rintro e w' ⟨rfl, h1, h2⟩
  refine ⟨rfl, h1, _, h2, ?_⟩
  intro b hb
  simp only [List.mem_append, List.mem_cons, List.not_mem_nil, or_false, Option.mem_toList] at hb
  rcases hb with (h | h | h) | h
  · exact .inl h
  · exact .inr (.inl h)
  · exact .inr (.inr (h ▸ I.gtQ))
  · exact .inr (.inr (I.bufQ (by rw [hd]; exact Option.some_ne_none _) b h).1)
theorem step_done (I : TI w Q gt gr gc gl kc ex size xs cnt P) (hd : P.d = none) : Calls Try.prog 13 #[.pointer (some ⟨gt, 0, none⟩)] w fun e w' => e = .returned (.bool false) ∧ w = w' := by
  obtain ⟨A, c, G, m, e, I⟩ := I
  exact mstep_done I.mem.task (by simp only [tk, hd]; rfl)
theorem done_any (I : TI w Q gt gr gc gl kc ex size xs cnt P) : Calls Try.prog 10 #[.pointer (some ⟨gt, 0, none⟩)] w fun e w' => e = .returned (.bool P.d.isNone) ∧ w = w' := by
  obtain ⟨A, c, G, m, e, I⟩ := I
  have h := mdone_any I.mem.task
  have h2 : (tk P A c G m e).d.isNone = P.d.isNone := by simp [tk]
  rw [h2] at h
  exact h
theorem steps_any (I : TI w Q gt gr gc gl kc ex size xs cnt P) : Calls Try.prog 15 #[.pointer (some ⟨gt, 0, none⟩)] w fun e w' => e = .returned (.int .i64 P.steps) ∧ w = w' := by
  obtain ⟨A, c, G, m, e, I⟩ := I
  exact msteps_any I.mem.task
end
end Go.Proofs.Ythnhjhlpimgkiaa

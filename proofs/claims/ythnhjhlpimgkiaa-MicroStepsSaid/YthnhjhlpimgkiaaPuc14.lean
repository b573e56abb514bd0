/-
  Chapter 14: Put's accesses: putCell, putDone.
-/
import Derived.Test.YthnhjhlpimgkiaaPut14
namespace Go.Proofs.Ythnhjhlpimgkiaa
open Go.RowKit
/-- Nothing old is changed. -/
def SB (w w' : World) : Prop := Below w.heap.size w w'
theorem SB.cell {w w' : World} (h : SB w w') {g : Nat} {t : TypeId} {cs : Array Value} (hb : Blk w g t cs) {i : Nat} {v : Value} (hc : w.cell? ⟨g, i, none⟩ = some v) : w'.cell? ⟨g, i, none⟩ = some v := (Below.cell (p := ⟨g, i, none⟩) h hb.lt).trans hc
theorem putCell_any {w : World} {gt gr gc gl kc size cnt : Nat} {ex : List Value} {xs : List Int} {T : Tk} (M : M14 w gt gr gc gl kc ex size xs cnt T) (hb : cnt < 899999) :
    Calls Try.prog 55 #[.pointer (some ⟨gt, 0, none⟩)] w fun e w' => e = .returned (.tuple #[]) ∧ M14 w' gt gr gc gl kc ex size (xs.set (3 + T.tail % size) T.g) (cnt + 1) { T with d := some 63 } ∧ Mv [gc, gl, gt] w w' := by
  have hi : 3 + T.tail % size < xs.length := by
    have := M.fits
    have : T.tail % size < size := Nat.mod_lt _ (by omega)
    omega
  have MD : M14 w.drew gt gr gc gl kc ex size xs cnt T := M.step (Below.refl _ _).drew
  have HC := Lib.hid (mcell_any MD.ring T.tail M.ok.2.2.1 M.fits.1)
  have HS := Lib.hid (store_any MD.cells (3 + T.tail % size) hi T.g (by omega))
  have HM := Lib.hid MD
  obtain ⟨c0, c1, c2, -, -, c5, -, -, -, -⟩ := ten_ M.task
  have F0 : ∀ w', SB w w' → w'.cell? ⟨gt, 0, none⟩ = some (.pointer (some ⟨gr, 0, none⟩)) := fun w' h => h.cell M.task c0
  have F2 : ∀ w', SB w w' → w'.cell? ⟨gt, 2, none⟩ = some (.int .i64 T.g) := fun w' h => h.cell M.task c2
  have F5 : ∀ w', SB w w' → w'.cell? ⟨gt, 5, none⟩ = some (.int .u32 T.tail) := fun w' h => h.cell M.task c5
  have R0 : ∀ w', SB w w' → w'.cell? ⟨gr, 0, none⟩ = some (.pointer (some ⟨gc, 0, none⟩)) := fun w' h => h.cell M.ring ((M.ring.cell 0).trans rfl)
  clear M MD hi c0 c1 c2 c5
  go_enter Try.func55, Try.ntmps55
  go_wp2_with fail
  refine region_schE (SB w) [([0, 1, 2, 3, 4, 5, 6, 7, 8, 9, 10, 11, 12, 13, 14, 16, 17, 18, 19], 15)] [] 20 (by kernel_rfl) (by kernel_rfl) (by kernel_rfl) (fun _ _ d _ _ h => by cases d <;> exact h) (Below.refl _ _).drew ?_
  (try simp only [Act.put, List.setIfInBounds_toArray, List.set_cons_zero, List.set_cons_succ]); refine schE_seg ?_; simp only [pickOps, List.getElem?_toArray, List.getElem?_cons_zero, List.getElem?_cons_succ]; (repeat (first | go_big_quiet_skip | (go_big_quiet_want; first | (go_big_quiet_op; first | go_big_quiet_on | ((first | with_reducible refine ⟨_, fun _ _ => rfl, ?_⟩); go_big_quiet_on)) | (simp (contextual := true) [go_sem, F0, F2, F5, R0]; with_reducible refine ⟨_, fun _ _ => rfl, ?_⟩; go_big_quiet_on)))); refine wpQuiet_nil ?_
  go_wp2_with fail
  refine HC.out.mono ?_
  rintro e w1 ⟨rfl, rfl⟩
  go_wp2_with fail
  refine ⟨SB w, (Below.refl _ _).drew, fun _ h => h, ?_⟩
  (try simp only [Act.put, List.setIfInBounds_toArray, List.set_cons_zero, List.set_cons_succ]); refine schE_last ?_; simp only [pickOps, List.getElem?_toArray, List.getElem?_cons_zero, List.getElem?_cons_succ]; (repeat (first | go_big_quiet_skip | (go_big_quiet_want; first | (go_big_quiet_op; first | go_big_quiet_on | ((first | with_reducible refine ⟨_, fun _ _ => rfl, ?_⟩); go_big_quiet_on)) | (simp (contextual := true) [go_sem, F0, F2, F5, R0]; with_reducible refine ⟨_, fun _ _ => rfl, ?_⟩; go_big_quiet_on)))); refine wpQuiet_nil ?_
  go_wp2_with fail
  refine HS.out.mono ?_
  rintro e w2 ⟨rfl, hC, hV⟩
  have HM2 := Lib.hid (HM.out.load hC hV (by simp) hb)
  have HV2 := Lib.hid (show Mv [gc, gl, gt] w w2 from (Mv.of_below (Below.refl _ w).drew (Nat.le_refl _)).trans (hV.mono (by intro k hk _; simp at hk ⊢; omega)))
  obtain ⟨-, k1, -⟩ := ten_ HM2.out.task
  have f1 := HM2.out.task.frozen 1
  clear hC hV F0 F2 F5 R0
  go_wp2_with fail
  go_end0
  exact ⟨rfl, HM2.out.setT 1 _ rfl HM2.out.ok, HV2.out.set _ _ (by simp)⟩
theorem mend_nil {w : World} {gt gr gc gl kc size cnt : Nat} {ex : List Value} {xs : List Int} {T : Tk} (M : M14 w gt gr gc gl kc ex size xs cnt T) (A : Option Addr) (n c : Nat) :
    Calls Try.prog 27 #[.pointer (some ⟨gt, 0, none⟩), .slice A n c] w fun e w' => e = .returned (.tuple #[]) ∧ M14 w' gt gr gc gl kc ex size xs cnt { T with d := none, got := .slice A n c } ∧ Mv [gt] w w' := by
  refine (mend_any M.task A n c).mono ?_
  rintro e w' ⟨rfl, rfl⟩
  have a1 := M.setT (T' := { T with d := none }) 1 .nilFunc rfl M.ok
  exact ⟨rfl, a1.setT 8 _ rfl a1.ok, ((Mv.refl _ _).set _ _ (by simp)).set _ _ (by simp)⟩
theorem putDone_any {w : World} {gt gr gc gl kc size cnt : Nat} {ex : List Value} {xs : List Int} {T : Tk} (M : M14 w gt gr gc gl kc ex size xs cnt T) (hb : cnt < 899999) :
    Calls Try.prog 63 #[.pointer (some ⟨gt, 0, none⟩)] w fun e w' => e = .returned (.tuple #[]) ∧ M14 w' gt gr gc gl kc ex size (xs.set 1 (u ((T.tail : Int) + 1))) (cnt + 1) { T with d := none, got := .slice none 0 0 } ∧ Mv [gc, gl, gt] w w' := by
  have hi : 1 < xs.length := by
    have := M.fits
    omega
  have MD : M14 w.drew gt gr gc gl kc ex size xs cnt T := M.step (Below.refl _ _).drew
  obtain ⟨n, HN⟩ : ∃ n, Hid (n = u ((T.tail : Int) + 1)) := ⟨_, Lib.hid rfl⟩
  rw [← HN.out]
  have hn : n < 4294967296 := by rw [HN.out]; exact u_lt _
  have hw1 : IntKind.u32.wrap ((T.tail : Int) + 1) = n := by rw [HN.out]; exact wrap_u _
  have hw2 : ((T.tail : Int) + 1) % 4294967296 = n := by rw [HN.out]; exact mod_u _
  have HS := Lib.hid (store_any MD.cells 1 hi n (by omega))
  have HM := Lib.hid MD
  obtain ⟨c0, c1, c2, -, -, c5, -, -, -, -⟩ := ten_ M.task
  have F0 : ∀ w', SB w w' → w'.cell? ⟨gt, 0, none⟩ = some (.pointer (some ⟨gr, 0, none⟩)) := fun w' h => h.cell M.task c0
  have F5 : ∀ w', SB w w' → w'.cell? ⟨gt, 5, none⟩ = some (.int .u32 T.tail) := fun w' h => h.cell M.task c5
  have R0 : ∀ w', SB w w' → w'.cell? ⟨gr, 0, none⟩ = some (.pointer (some ⟨gc, 0, none⟩)) := fun w' h => h.cell M.ring ((M.ring.cell 0).trans rfl)
  clear M MD hi c0 c1 c2 c5
  go_enter Try.func63, Try.ntmps63
  go_wp2_with fail
  refine region_schE (SB w) [] [0, 1, 2, 3, 4, 5, 6, 7, 8, 9, 10, 11, 12] 13 (by kernel_rfl) (by kernel_rfl) (by kernel_rfl) (fun _ _ d _ _ h => by cases d <;> exact h) (Below.refl _ _).drew ?_
  (try simp only [Act.put, List.setIfInBounds_toArray, List.set_cons_zero, List.set_cons_succ]); refine schE_last ?_; simp only [pickOps, List.getElem?_toArray, List.getElem?_cons_zero, List.getElem?_cons_succ]; (repeat (first | go_big_quiet_skip | (go_big_quiet_want; first | (go_big_quiet_op; first | go_big_quiet_on | ((first | with_reducible refine ⟨_, fun _ _ => rfl, ?_⟩); go_big_quiet_on)) | (simp (contextual := true) [go_sem, F0, F5, R0]; with_reducible refine ⟨_, fun _ _ => rfl, ?_⟩; go_big_quiet_on)))); refine wpQuiet_nil ?_
  go_wp2_with fail
  refine HS.out.mono ?_
  rintro e w2 ⟨rfl, hC, hV⟩
  have HM2 := Lib.hid (HM.out.load hC hV (by simp) hb)
  have HV2 := Lib.hid (show Mv [gc, gl, gt] w w2 from (Mv.of_below (Below.refl _ w).drew (Nat.le_refl _)).trans (hV.mono (by intro k hk _; simp at hk ⊢; omega)))
  have HE := Lib.hid (mend_nil HM2.out none 0 0)
  clear hC hV F0 F5 R0 HS
  go_wp2_with fail
  refine HE.out.mono ?_
  rintro e w3 ⟨rfl, hM3, hV3⟩
  go_wp2_with fail
  go_end0
  exact ⟨rfl, hM3, HV2.out.trans (hV3.mono (by simp))⟩
end Go.Proofs.Ythnhjhlpimgkiaa

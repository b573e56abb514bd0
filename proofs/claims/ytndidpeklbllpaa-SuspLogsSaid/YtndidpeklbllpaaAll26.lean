/-
  The keys of a log, sorted: (*Log).All. Conditions: the log lies in memory, its map holds 1 at some keys and nothing else.
-/
import Derived.Test.YtndidpeklbllpaaLay26
import Derived.Test.YtndidpeklbllpaaSeti
import Derived.Test.YtndidpeklbllpaaBlk
import Derived.Test.YtndidpeklbllpaaMem
import Derived.Test.YtndidpeklbllpaaOwn
namespace Go.Proofs.Ytndidpeklbllpaa
open Go.RowKit Go.Maps Go.Sort Go.Shelf
theorem Try.sortsA (m : Nat) : AnyZI.SortsIn Try.prog Try.sortedA_ren Fence.wide m :=
  ⟨fun blk off cap ss W hH hblk hsz => callsIn_wide.2 (AnyM.slices_Sort_int Try.sortA blk off cap ss W hH hblk hsz),
   fun p cap W => callsIn_wide.2 (AnyM.slices_Sort_int_none Try.sortA p cap W)⟩
theorem rise_le {l : List Int} (h : l.Pairwise (· < ·)) : l.Pairwise (fun x y => leI x y = true) := h.imp (fun h => by simp only [leI, decide_eq_true_eq]; omega)
theorem rise_nodup {l : List Int} (h : l.Pairwise (· < ·)) : l.Nodup := h.imp (fun h => by omega)
theorem sort_of {ss W : List Int} (h : ss.Perm W) (hW : W.Pairwise (· < ·)) : ss.mergeSort (fun x y => decide (x ≤ y)) = W := by
  have h1 := mergeSort_of_perm_i h
  have h2 : W.mergeSort leI = W := List.mergeSort_of_pairwise (rise_le hW)
  exact h1.trans h2
set_option maxHeartbeats 1000000 in
theorem all_set (l gm n : Nat) (gs : Int) (p : Int → Bool) (c : Nat) (w : World) (W : List Int) (hl : Blk w l 39 #[.int .i64 gs, .map (some gm)]) (hs : SetIs Try.prog 3 w gm n p c) (hc : c ≤ 1000) (hW : W.Pairwise (· < ·)) (hp : ∀ x, x ∈ W ↔ p x = true) :
    Calls Try.prog 9 #[.pointer (some ⟨l, 0, none⟩)] w fun e w' => ∃ A cap, e = .returned (.slice A W.length cap) ∧ Row w' w'.heap.size A (ints W) ∧ Below w.heap.size w w' := by
  obtain ⟨D0, hown, hD, hsz⟩ := hs
  have hmax : Maps.size D0 ≤ maxLen := by unfold maxLen; omega
  have hbytes : Maps.size D0 * 8 ≤ 140737488355328 := by omega
  have HWP := Lib.hid (show W.Perm (intKeys D0) from CollectedI.perm (D0 := D0) (left := fun _ => false) ⟨rise_nodup hW, fun x => by rw [hp, (hD x).1]; simp⟩ hown (int_keyed Try.underlying3) Try.underlying3 (fun _ => rfl))
  have HW := Lib.hid hW
  have q1 := hl.cell 1
  simp only [List.getElem?_toArray, List.getElem?_cons_zero, List.getElem?_cons_succ] at q1
  refine (callsIn_wide (n := 6)).1 ?_
  have hbl := hown.lt
  have hseq : SeqGives Fence.wide 2 Try.prog 22 #[.pointer (some ⟨w.heap.size, 0, none⟩)] encZ (fun ss => ss.Perm (intKeys D0)) (Maps.size D0) (w.alloc (.cells #[.map (some gm)] 37)) :=
    AnyZI.keys_gives (ρ := Try.keysA_ren) { Try.keysA with } Fence.wide _ trivial rfl (by omega) w.heap.size gm n D0 _ (by simp) (by simp) (by
      obtain ⟨es, clock, hb, Ft, hs, hD⟩ := hown
      exact ⟨es, clock, (Below.heap_alloc _ _ gm hbl).trans hb, Ft, hs, hD⟩)
  have cK : ∀ mb W, CallsIn Fence.wide 5 Try.prog 15 #[.map mb] W fun e w' => e = .returned (.func (.func 22) #[] #[.pointer (some ⟨W.heap.size, 0, none⟩)]) ∧ w' = W.alloc (.cells #[.map mb] 37) := fun mb W => AnyZI.keys_in Try.keysA Fence.wide 5 trivial rfl mb W
  have cS := AnyZI.sorted_in Try.sortedA Fence.wide 5 trivial trivial trivial trivial rfl (by omega) (Try.sortsA _) (enters_of Try.func21 (by kernel_rfl) rfl) 22 #[.pointer (some ⟨w.heap.size, 0, none⟩)] trivial (enters_of Try.func22 (by kernel_rfl) rfl) _ _ hmax hbytes _ hseq
  change CallsIn _ _ Try.prog 14 _ _ _ at cS
  have hfK : Fence.wide.fn 15 := trivial
  have hfS : Fence.wide.fn 14 := trivial
  clear hD hsz hp hW
  refine callsIn_of_wp Try.func9 rfl trivial ?_ rfl
  simp only [Try.ntmps9, List.size_toArray, List.length_cons, List.length_nil, Nat.reduceAdd, Nat.reduceSub, Array.replicate_succ, Array.replicate_zero, List.push_toArray, List.append_toArray, List.nil_append, List.cons_append]
  gi_wp2_with (first
    | (gi_at_call 15; refine (cK _ _).mono ?_; rintro e w' ⟨rfl, rfl⟩)
    | (gi_at_call 14; refine cS.mono ?_; rintro e w' ⟨v, ss, rfl, hS, hrow, hnil, hb⟩))
  go_ret
  have hss := sort_of (hS.trans HWP.out.symm) HW.out
  have hlen : ss.length = W.length := (hS.trans HWP.out.symm).length_eq
  rw [hss] at hrow
  rw [hlen] at hrow
  have hex : ∃ A cap, v = .slice A W.length cap := by
    rcases hrow.2 with ⟨hv, h0⟩ | ⟨g, cap, cur, hv, _⟩
    · exact ⟨none, 0, by rw [hv, h0]⟩
    · exact ⟨_, _, hv⟩
  obtain ⟨A, cap, rfl⟩ := hex
  have ho : Own w' _ 3 1 A W.length cap (ints W) := hrow
  exact ⟨A, cap, rfl, ho.row, ((Below.refl _ w).alloc (Nat.le_refl _) _).trans (hb.mono (by simp))⟩
end Go.Proofs.Ytndidpeklbllpaa

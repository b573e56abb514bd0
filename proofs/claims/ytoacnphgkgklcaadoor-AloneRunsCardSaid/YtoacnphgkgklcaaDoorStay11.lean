/-
  Chapter 11, plain: a thread that fits does so behind a step. No program in sight.
-/
import Derived.Test.YtoacnphgkgklcaaDoorDo3
namespace Go.Proofs.YtoacnphgkgklcaaDoor
open Go.RowKit
theorem placeB_of {fs : List Fn} {k m : Nat} (hk : k < fs.length) (hm : m < fs[k].code.length) : placeB fs (k : Int) (m : Int) = true := by
  rw [placeB_nat fs k hk, decide_eq_true_eq]
  omega
theorem ends_table : ∀ k : Nat, k < 24 → k ≠ 6 → k ≠ 9 → k ≠ 14 → opEnds (k : Int) = false := by decide +kernel
theorem ends_no {op : Int} (h0 : 0 ≤ op) (h24 : op < 24) (h6 : op ≠ 6) (h9 : op ≠ 9) (h14 : op ≠ 14) : opEnds op = false := by
  obtain ⟨k, rfl⟩ := Int.eq_ofNat_of_zero_le h0
  exact ends_table k (by omega) (by omega) (by omega) (by omega)
theorem fitsT_of {fs : List Fn} {u : Th} (hr : runB fs = true) (hd : u.done = false) (hp : placeB fs u.fn u.pc = true) (hl : u.stack.length ≤ 16) (hs : placesB fs u.stack = true) : fitsT fs u = true := by
  unfold fitsT fitsP
  rw [hr, hd, hp, hs, decide_eq_true hl]
  rfl
theorem fits_step {fs : List Fn} {t : Th} (ans : Int) (h : fitsT fs t = true) : fitsT fs (stepT fs t ans).1 = true := by
  cases hd : t.done with
  | true =>
    unfold stepT
    rw [if_pos hd]
    exact h
  | false =>
    obtain ⟨hr, k, m, ek, em, hk, hm, ei⟩ := fits_place h hd
    have hl := stack_le h hd
    have hs : placesB fs t.stack = true := by
      unfold fitsT fitsP at h
      rw [hd, Bool.false_or, Bool.and_eq_true, Bool.and_eq_true, Bool.and_eq_true] at h
      exact h.2.2.2
    have hR := run_ins hr hk hm
    have hE := (fn_ok ((run_fn hr).2.2 k hk)).2.2.2 m hm
    have e : (stepT fs t ans).1 = (stepI fs[k].code[m] t ans).1 := by unfold stepT; rw [hd, ei]; rfl
    rw [e]
    generalize fs[k].code[m] = i at *
    unfold stepI
    have hnext : opEnds i.op = false → placeB fs t.fn (t.pc + 1) = true := by
      intro ho
      have := placeB_of hk (hE ho)
      rw [ek, em]
      exact this
    generalize hU : ({ t with regs := regs1 i t ans, pc := t.pc + 1 } : Th) = U
    have uf : U.fn = t.fn := by rw [← hU]
    have up : U.pc = t.pc + 1 := by rw [← hU]
    have us : U.stack = t.stack := by rw [← hU]
    have ud : U.done = false := by rw [← hU]; exact hd
    clear hU
    unfold moveT
    by_cases h7 : i.op = 7
    · rw [if_pos h7]
      simp only
      split
      · exact fitsT_of hr ud (by rw [uf, up]; exact hnext (by rw [h7]; decide +kernel)) (by rw [us]; exact hl) (by rw [us]; exact hs)
      · have hn := hR.toPlace (by rw [h7]; decide +kernel)
        obtain ⟨n, en⟩ := Int.eq_ofNat_of_zero_le hn.1
        refine fitsT_of hr ud ?_ (by show U.stack.length ≤ 16; rw [us]; exact hl) (by show placesB fs U.stack = true; rw [us]; exact hs)
        show placeB fs U.fn i.n = true
        rw [uf, ek, en]
        exact placeB_of hk (by omega)
    rw [if_neg h7]
    by_cases h6 : i.op = 6
    · rw [if_pos h6]
      have hn := hR.toPlace (by rw [h6]; decide +kernel)
      obtain ⟨n, en⟩ := Int.eq_ofNat_of_zero_le hn.1
      refine fitsT_of hr ud ?_ (by show U.stack.length ≤ 16; rw [us]; exact hl) (by show placesB fs U.stack = true; rw [us]; exact hs)
      show placeB fs U.fn i.n = true
      rw [uf, ek, en]
      exact placeB_of hk (by omega)
    rw [if_neg h6]
    by_cases h8 : i.op = 8
    · rw [if_pos h8]
      by_cases h16 : U.stack.length = 16
      · rw [if_pos h16]
        show fitsT fs doneT = true
        unfold fitsT
        rw [hr]
        rfl
      · rw [if_neg h16]
        have hn := hR.toFunc (by rw [h8]; decide +kernel)
        obtain ⟨n, en⟩ := Int.eq_ofNat_of_zero_le hn.1
        have hnl : n < fs.length := by omega
        refine fitsT_of hr ud ?_ ?_ ?_
        · show placeB fs i.n ((0 : Nat) : Int) = true
          rw [en]
          exact placeB_of hnl (fn_ok ((run_fn hr).2.2 n hnl)).1
        · show (U.stack ++ [(U.fn, U.pc)]).length ≤ 16
          rw [List.length_append, us]
          rw [us] at h16
          simp
          omega
        · show placesB fs (U.stack ++ [(U.fn, U.pc)]) = true
          unfold placesB at hs ⊢
          rw [List.all_append, us, hs, Bool.true_and, uf, up]
          simp only [List.all_cons, List.all_nil, Bool.and_true]
          exact hnext (by rw [h8]; decide +kernel)
    rw [if_neg h8]
    by_cases h9 : i.op = 9
    · rw [if_pos h9]
      by_cases h0 : U.stack.length = 0
      · rw [if_pos h0]
        show fitsT fs doneT = true
        unfold fitsT
        rw [hr]
        rfl
      · rw [if_neg h0]
        rw [us] at h0 ⊢
        have hlast : t.stack.length - 1 < t.stack.length := by omega
        have eg : t.stack.getD (t.stack.length - 1) (0, 0) = t.stack[t.stack.length - 1] := by simp [hlast]
        unfold placesB at hs
        rw [List.all_eq_true] at hs
        refine fitsT_of hr ud ?_ ?_ ?_
        · show placeB fs (t.stack.getD (t.stack.length - 1) (0, 0)).1 (t.stack.getD (t.stack.length - 1) (0, 0)).2 = true
          rw [eg]
          exact hs _ (List.getElem_mem hlast)
        · show (t.stack.take (t.stack.length - 1)).length ≤ 16
          rw [List.length_take]
          omega
        · show placesB fs (t.stack.take (t.stack.length - 1)) = true
          unfold placesB
          rw [List.all_eq_true]
          exact fun x hx => hs x (List.mem_of_mem_take hx)
    rw [if_neg h9]
    by_cases h14 : i.op = 14
    · rw [if_pos h14]
      show fitsT fs doneT = true
      unfold fitsT
      rw [hr]
      rfl
    rw [if_neg h14]
    exact fitsT_of hr ud (by rw [uf, up]; exact hnext (ends_no hR.op0 hR.op24 h6 h9 h14)) (by rw [us]; exact hl) (by rw [us]; exact hs)
end Go.Proofs.YtoacnphgkgklcaaDoor

/-
  Contracts of the library's slices functions at ints: IsSorted and Compact of a row that rises, Clone, Grow of nil, Concat of two rows. Conditions: the rows lie in memory.
-/
import Derived.Test.YtigbkihaclobgaaLaw24
import Derived.Test.YtigbkihaclobgaaApp
import Derived.Lib.AppendZerosOnto
namespace Go.Proofs.Ytigbkihaclobgaa
open Go.RowKit
theorem ints_one (l : List Int) : ∀ u ∈ ints l, u.oneCell' = true := by
  intro u hu
  obtain ⟨x, _, rfl⟩ := List.mem_map.1 hu
  rfl
theorem rise_at {l : List Int} (h : l.Pairwise (· < ·)) (k : Nat) (hk : k + 1 < l.length) : l[k] < l[k + 1] := List.pairwise_iff_getElem.1 h k (k + 1) (by omega) hk (by omega)
theorem less_any (x y : Int) (w : World) : Calls Try.prog 14 #[.int .i64 x, .int .i64 y] w fun e w' => e = .returned (.bool (decide (x < y))) ∧ w = w' := by
  have hne : (x != x) = false := by simp
  go_enter Try.func14, Try.ntmps14
  go_wp2
  go_ret
  exact ⟨rfl, rfl⟩
set_option maxHeartbeats 1000000 in
theorem isSorted_any (A : Option Addr) (n c : Nat) (zs : List Int) (w : World) (hn : zs.length = n) (hm : n ≤ maxLen) (hs : zs.Pairwise (· < ·)) (hr : Row w w.heap.size A (ints zs)) :
    Calls Try.prog 10 #[.slice A n c] w fun e w' => e = .returned (.bool true) ∧ Below w.heap.size w w' := by
  unfold maxLen at hm
  have HN := Lib.hid hn
  have HS := Lib.hid hs
  have HR := Lib.hid hr
  clear hn hs hr
  go_enter Try.func10, Try.ntmps10
  go_wp2_with fail
  go_loopw [3] (fun vi wr => ∃ i : Int, -1 ≤ i ∧ i < n ∧ vi = .int .i64 i ∧ Below w.heap.size w wr) (fun vi _ => (intOf vi).toNat)
  case atStart => exact ⟨(n : Int) - 1, by omega, by omega, by go_num, Below.refl _ _⟩
  case round =>
    obtain ⟨i, hi1, hi2, rfl, hbw⟩ := hrel
    by_cases h0 : 0 < i
    · obtain ⟨k, hk⟩ : ∃ k : Nat, i = (k : Int) + 1 := ⟨(i - 1).toNat, by omega⟩
      subst hk
      have hkl : k + 1 < zs.length := by have := HN.out; omega
      obtain ⟨b, off, rfl, hbl, hcx⟩ := HR.out.at_ (k := k) (by simp [ints]; omega)
      have hx0 : ∀ w', Below w.heap.size w w' → w'.cell? ⟨b, off + (k + 1), none⟩ = some (.int .i64 zs[k + 1]) := fun w' h => (h.cell (p := ⟨b, off + (k + 1), none⟩) hbl).trans (hcx (k + 1) _ (ints_at_ zs (k + 1) hkl))
      have hy0 : ∀ w', Below w.heap.size w w' → w'.cell? ⟨b, off + k, none⟩ = some (.int .i64 zs[k]) := fun w' h => (h.cell (p := ⟨b, off + k, none⟩) hbl).trans (hcx k _ (ints_at_ zs k (by omega)))
      have hlt := rise_at HS.out k hkl
      clear hcx hbl
      generalize zs[k + 1] = x at *
      generalize zs[k] = y at *
      have e1 : decide (x < y) = false := by simp; omega
      have e2 : IntKind.i64.wrap ((k : Int) + 1 - 1) = (k : Int) := by rw [IntKind.wrap_i64]; omega
      have e3 : ((k : Int) + 1).toNat = k + 1 := by omega
      go_wp2_with fail
      refine region_below w w.heap.size (by kernel_rfl) (by kernel_rfl) hbw ?_
      repeat (first | go_big_quiet_skip | (go_big_quiet_want; first | (go_big_quiet_op; first | go_big_quiet_on | ((first | with_reducible refine ⟨_, fun _ _ => rfl, ?_⟩ | with_reducible refine ⟨_, fun w' hw' => calm_of_same hw' (less_any _ _ _), ?_⟩); go_big_quiet_on)) | (simp (contextual := true) [go_sem, hx0, hy0]; with_reducible refine ⟨_, fun _ _ => rfl, ?_⟩; go_big_quiet_on)))
      refine wpQuiet_nil ?_
      intro w1 hw1
      go_wp2_with fail
      go_roundw
      case rel => exact ⟨(k : Int), by omega, by omega, by go_num, hw1⟩
      case measure => simp [intOf]
    · go_wp2_with fail
      go_ret
      exact ⟨rfl, hbw⟩
set_option maxHeartbeats 1000000 in
theorem compact_any (A : Option Addr) (n c : Nat) (zs : List Int) (w : World) (hn : zs.length = n) (hm : n ≤ maxLen) (hs : zs.Pairwise (· < ·)) (hr : Row w w.heap.size A (ints zs)) :
    Calls Try.prog 11 #[.slice A n c] w fun e w' => e = .returned (.slice A n c) ∧ Below w.heap.size w w' := by
  unfold maxLen at hm
  have HN := Lib.hid hn
  have HS := Lib.hid hs
  have HR := Lib.hid hr
  clear hn hs hr
  by_cases h2 : n < 2
  · go_enter Try.func11, Try.ntmps11
    go_wp2_with fail
    go_ret
    exact ⟨rfl, Below.refl _ _⟩
  · go_enter Try.func11, Try.ntmps11
    go_wp2_with fail
    go_loopw [3] (fun vi wr => ∃ k : Nat, k < n ∧ vi = .int .i64 (k + 1 : Nat) ∧ Below w.heap.size w wr) (fun vi _ => n - (intOf vi).toNat)
    case atStart => exact ⟨0, by omega, rfl, Below.refl _ _⟩
    case round =>
      obtain ⟨k, hk, rfl, hbw⟩ := hrel
      by_cases hlt : k + 1 < n
      · have hkl : k + 1 < zs.length := by have := HN.out; omega
        obtain ⟨b, off, rfl, hbl, hcx⟩ := HR.out.at_ (k := k) (by simp [ints]; omega)
        have hx0 : ∀ w', Below w.heap.size w w' → w'.cell? ⟨b, off + (k + 1), none⟩ = some (.int .i64 zs[k + 1]) := fun w' h => (h.cell (p := ⟨b, off + (k + 1), none⟩) hbl).trans (hcx (k + 1) _ (ints_at_ zs (k + 1) hkl))
        have hy0 : ∀ w', Below w.heap.size w w' → w'.cell? ⟨b, off + k, none⟩ = some (.int .i64 zs[k]) := fun w' h => (h.cell (p := ⟨b, off + k, none⟩) hbl).trans (hcx k _ (ints_at_ zs k (by omega)))
        have hlt2 := rise_at HS.out k hkl
        clear hcx hbl
        generalize zs[k + 1] = x at *
        generalize zs[k] = y at *
        have e1 : (x == y) = false := by simp; omega
        have e2 : IntKind.i64.wrap ((k : Int) + 1 - 1) = (k : Int) := by rw [IntKind.wrap_i64]; omega
        have e3 : ((k : Int) + 1).toNat = k + 1 := by omega
        go_wp2_with fail
        refine region_below w w.heap.size (by kernel_rfl) (by kernel_rfl) hbw ?_
        repeat (first | go_big_quiet_skip | (go_big_quiet_want; first | (go_big_quiet_op; first | go_big_quiet_on | ((first | with_reducible refine ⟨_, fun _ _ => rfl, ?_⟩); go_big_quiet_on)) | (simp (contextual := true) [go_sem, hx0, hy0]; with_reducible refine ⟨_, fun _ _ => rfl, ?_⟩; go_big_quiet_on)))
        refine wpQuiet_nil ?_
        intro w1 hw1
        go_wp2_with fail
        go_roundw
        case rel => exact ⟨k + 1, by omega, by go_num, hw1⟩
        case measure => simp [intOf]; omega
      · go_wp2_with fail
        go_ret
        exact ⟨rfl, hbw⟩
set_option maxHeartbeats 1000000 in
theorem cloneI_any (C : Option Addr) (n c : Nat) (l : List Int) (w : World) (hl : l.length = n) (hn : n ≤ 65536) (hr : Row w w.heap.size C (ints l)) :
    Calls Try.prog 12 #[.slice C n c] w fun e w' => ∃ A' c', e = .returned (.slice A' n c') ∧ Own w' w.heap.size 3 1 A' n c' (ints l) ∧ Below w.heap.size w w' := by
  have q51 : ∀ (w : World) (a : Option Addr) (n c n' c' : Nat), (binOp .eql 22 (.slice a n c) (.slice none n' c')).run Try.prog w = .ok (.bool a.isNone) w := fun w a n c n' c' => Lib.run_eql_slice_nil w _ _ a n c n' c' Try.underlying22
  obtain ⟨i0, hi, hz0, hz1, hz2⟩ := info_parts Try.info3
  cases C with
  | none =>
    have h0 : l = [] := by
      rcases hr with h | ⟨b, off, e, _⟩
      · cases l with
        | nil => rfl
        | cons a l => simp [ints] at h
      · cases e
    subst h0
    obtain rfl : n = 0 := by simpa using hl.symm
    clear hl hr hi hz0 hz1 hz2
    go_enter Try.func12, Try.ntmps12
    go_wp2
    go_ret
    exact ⟨none, 0, rfl, Own.nil _ _ _ _, Below.refl _ _⟩
  | some q =>
    have hlen : (ints l).length = n * 1 := by simp [ints, hl]
    have hc : ∀ j u, (ints l)[j]? = some u → w.cell? (q.add j) = some u := by
      rcases hr with h | ⟨b, off, e, _, h⟩
      · intro j u hu; rw [h] at hu; cases hu
      · cases e
        intro j u hu
        rw [Addr.add_lit]
        exact h j u hu
    have HC := Lib.hid hc
    have HL := Lib.hid hlen
    have H1 := Lib.hid (ints_one l)
    have HI := Lib.hid hi
    have HZ0 := Lib.hid hz0
    have HZ1 := Lib.hid hz1
    have HZ2 := Lib.hid hz2
    clear hc hlen hl hr hi hz0 hz1 hz2
    go_enter Try.func12, Try.ntmps12
    go_wp2_with (at_builtin; refine wpList_append_own _ rfl _ _ 22 rfl w.heap.size 3 i0 _ 1 8 Try.underlying22 HI.out HZ0.out HZ1.out HZ2.out rfl (by decide) _ _ _ rfl (World.ownsRow_made w #[] 0 (Nat.le_refl _) (Nat.zero_le _) (by simp)) q n c (ints l) rfl ?qc1 ?qc2 ?qc3 ?qc4 ?qc5 ?qc6 ?_)
    case qc1 => exact HL.out
    case qc2 =>
      intro j u hj
      exact Lib.cell?_alloc_some _ (HC.out j u hj)
    case qc3 => exact H1.out
    case qc4 => rw [Nat.zero_add]; unfold maxLen; omega
    case qc5 => omega
    case qc6 => simp
    intro v' w1 hown hgrow hnil
    have hex : ∃ A' cc, v' = .slice A' n cc := by
      rcases hown.2 with ⟨hv, h0⟩ | ⟨g, cap, cur, hv, _⟩
      · exact absurd hv hnil
      · exact ⟨_, _, hv⟩
    obtain ⟨A', cc, rfl⟩ := hex
    go_wp2_with fail
    go_ret
    refine ⟨A', cc, rfl, ?_, ?_⟩
    · exact hown
    · exact ((Below.refl _ w).alloc (Nat.le_refl _) _).grown hgrow (by simp) (by intro k hk; simp [Value.ownBlock] at hk; omega)
set_option maxHeartbeats 2000000 in
set_option maxRecDepth 100000 in
theorem grow_any (n : Nat) (hn : n ≤ 65536) (w : World) :
    Calls Try.prog 15 #[.slice none 0 0, .int .i64 n] w fun e w' => ∃ A c, e = .returned (.slice A 0 c) ∧ Own w' w.heap.size 3 1 A 0 c [] ∧ Below w.heap.size w w' := by
  by_cases h0 : n = 0
  · subst h0
    go_enter Try.func15, Try.ntmps15
    go_wp2
    go_ret
    exact ⟨none, 0, rfl, Own.nil _ _ _ _, Below.refl _ _⟩
  · obtain ⟨i0, hi, hz0, hz1, hz2⟩ := info_parts Try.info3
    have hold : (Builtin.firstCells i0.size 0 (.slice none 0 0)).run Try.prog w.drew = .ok ([] : List Value).toArray w.drew := run_firstCells_none w.drew i0.size 0 0 0
    have hrz : ∀ ty, (Builtin.append_ #[22, 3] ty #[.slice none 0 0, .int .i64 (n : Int)]).run Try.prog w =
        .ok (.slice (some ⟨w.heap.size, 0, none⟩) n (grownCap w n 0 3)) (w.drew.alloc (.cells (#[] ++ Builtin.zeroCells (Value.int .i64 0).cells n ++ Builtin.zeroCells (Value.int .i64 0).cells (grownCap w n 0 3 - n)) 3)) := fun ty => by
      have h := Lib.run_append_grow_zeros w 22 3 ty 3 i0 (.int .i64 0) .i64 .i64 Try.underlying22 Try.underlying3 hi hz0 none 0 0 [] hold n (by omega) (by omega) (by omega) (by omega) (by rw [hz2]; omega)
        (by rw [Nat.zero_add]; exact growslice_fits (by omega) (by rw [hz2]; omega))
      simpa using h
    have hGn : n ≤ grownCap w n 0 3 := grownCap_ge w _ _ _
    have hGm := grownCap_le_maxLen w n 0 3 (by unfold maxLen; omega)
    have hex : ∃ G : Nat, G = grownCap w n 0 3 := ⟨_, rfl⟩
    obtain ⟨G, hG⟩ := hex
    rw [← hG] at hrz hGn hGm
    have hG63 : G ≤ 9223372036854775807 := by unfold maxLen at hGm; omega
    have HG := Lib.hid hGm
    have h4 : 0 < n := by omega
    clear hold hG hi hz0 hz1 hz2 hGm h0
    go_enter Try.func15, Try.ntmps15
    go_wp2_with (at_builtin; refine Lib.wpList_append_run _ rfl _ _ _ _ rfl _ _ rfl rfl _ _ (hrz _) ?_)
    go_ret
    refine ⟨some ⟨w.heap.size, 0, none⟩, G, rfl, ?_, ?_⟩
    · exact World.ownsRow_made w.drew _ G (Nat.le_refl _) HG.out (by simp [Builtin.zeroCells]; omega)
    · exact (Below.refl _ _).drew.alloc (Nat.le_refl _) _
set_option maxHeartbeats 2000000 in
theorem concat_any (A B : Option Addr) (n m c d g : Nat) (xs ys : List Int) (w : World) (hb : Blk w g 22 #[.slice A n c, .slice B m d]) (hn : xs.length = n) (hm : ys.length = m) (h1 : n ≤ 400) (h2 : m ≤ 400) (ha : Row w w.heap.size A (ints xs)) (hb' : Row w w.heap.size B (ints ys)) :
    Calls Try.prog 13 #[.slice (some ⟨g, 0, none⟩) 2 2] w fun e w' => ∃ X c', e = .returned (.slice X (n + m) c') ∧ Own w' w.heap.size 3 1 X (n + m) c' (ints (xs ++ ys)) ∧ Below w.heap.size w w' := by
  obtain ⟨i0, hi, hz0, hz1, hz2⟩ := info_parts Try.info3
  have HI := Lib.hid hi
  have HZ0 := Lib.hid hz0
  have HZ1 := Lib.hid hz1
  have HZ2 := Lib.hid hz2
  have HN := Lib.hid hn
  have HM := Lib.hid hm
  have HA := Lib.hid ha
  have HB := Lib.hid hb'
  have HG := Lib.hid hb
  have q0 := hb.cell 0
  have q1 := hb.cell 1
  simp only [List.getElem?_toArray, List.getElem?_cons_zero, List.getElem?_cons_succ] at q0 q1
  clear hn hm ha hb' hb hi hz0 hz1 hz2
  go_enter Try.func13, Try.ntmps13
  go_wp2_with fail
  go_loop [3, 11] (fun vs vi => (vs = .int .i64 0 ∧ vi = .int .i64 0) ∨ (vs = .int .i64 n ∧ vi = .int .i64 1) ∨ (vs = .int .i64 (n + m : Nat) ∧ vi = .int .i64 2)) (fun _ vi => 2 - (intOf vi).toNat)
  case atStart => exact .inl ⟨rfl, rfl⟩
  case round =>
    rcases hrel with ⟨rfl, rfl⟩ | ⟨rfl, rfl⟩ | ⟨rfl, rfl⟩
    · go_wp2_with fail
      go_round
      case rel => exact .inr (.inl ⟨by go_num, by go_num⟩)
      case measure => simp [intOf]
    · go_wp2_with fail
      go_round
      case rel => exact .inr (.inr ⟨by go_num, by go_num⟩)
      case measure => simp [intOf]
    · go_wp2_with fail
      rw [show ((n : Int) + (m : Int)) = ((n + m : Nat) : Int) by omega]
      refine (grow_any (n + m) (by omega) w).mono ?_
      rintro e w1 ⟨X, cx, rfl, ho, hb1⟩
      have HB1 := Lib.hid hb1
      have HO := Lib.hid ho
      have HG1 := Lib.hid (HG.out.below hb1 HG.out.lt)
      clear q0 q1 hb1 ho
      go_wp2_with fail
      go_loopw [6, 27] (fun vs vi wr => Below w.heap.size w wr ∧ ((∃ X cx, vs = .slice X 0 cx ∧ vi = .int .i64 0 ∧ Own wr w.heap.size 3 1 X 0 cx []) ∨ (∃ X cx, vs = .slice X n cx ∧ vi = .int .i64 1 ∧ Own wr w.heap.size 3 1 X n cx (ints xs)) ∨
        (∃ X cx, vs = .slice X (n + m) cx ∧ vi = .int .i64 2 ∧ Own wr w.heap.size 3 1 X (n + m) cx (ints (xs ++ ys))))) (fun _ vi _ => 2 - (intOf vi).toNat)
      case atStart => exact ⟨HB1.out, .inl ⟨X, cx, rfl, rfl, HO.out⟩⟩
      case round =>
        obtain ⟨hbw, hr⟩ := hrel
        have HBW := Lib.hid hbw
        have HGW := Lib.hid (HG.out.below hbw HG.out.lt)
        have q0 := HGW.out.cell 0
        have q1 := HGW.out.cell 1
        simp only [List.getElem?_toArray, List.getElem?_cons_zero, List.getElem?_cons_succ] at q0 q1
        have c1 : Hid (n ≤ maxLen) := by unfold maxLen; show _ ≤ _; omega
        have c2 : Hid (n + m ≤ maxLen) := by unfold maxLen; show _ ≤ _; omega
        clear hbw
        rcases hr with ⟨X', cx', rfl, rfl, hown⟩ | ⟨X', cx', rfl, rfl, hown⟩ | ⟨X', cx', rfl, rfl, hown⟩
        · have HOW := Lib.hid hown
          clear hown
          go_wp2_with (at_builtin; refine wpList_append_row _ rfl (.tmp 31) (.tmp 32) 22 rfl w.heap.size 3 i0 (.int .i64 0) 1 8 Try.underlying22 HI.out HZ0.out HZ1.out HZ2.out rfl (by decide) X' 0 cx' [] rfl HOW.out A n c w.heap.size (ints xs) rfl (by have := HN.out; simp [ints]; omega) (HA.out.below HBW.out) (ints_one xs) (by rw [Nat.zero_add]; exact c1.out) (by omega) HBW.out.size ?_; intro A' c' w2 hown2 hgrow2 hat2)
          go_roundw
          case rel =>
            refine ⟨?_, .inr (.inl ⟨A', c', rfl, by go_num, by rw [Nat.zero_add] at hown2; simpa using hown2⟩)⟩
            exact HBW.out.grown hgrow2 HBW.out.size (fun k hk => (HOW.out.lt k hk).1)
          case measure => simp [intOf]
        · have HOW := Lib.hid hown
          clear hown
          go_wp2_with (at_builtin; refine wpList_append_row _ rfl (.tmp 31) (.tmp 32) 22 rfl w.heap.size 3 i0 (.int .i64 0) 1 8 Try.underlying22 HI.out HZ0.out HZ1.out HZ2.out rfl (by decide) X' n cx' (ints xs) rfl HOW.out B m d w.heap.size (ints ys) rfl (by have := HM.out; simp [ints]; omega) (HB.out.below HBW.out) (ints_one ys) c2.out (by omega) HBW.out.size ?_; intro A' c' w2 hown2 hgrow2 hat2)
          go_roundw
          case rel =>
            refine ⟨?_, .inr (.inr ⟨A', c', rfl, by go_num, by simpa [ints] using hown2⟩)⟩
            exact HBW.out.grown hgrow2 HBW.out.size (fun k hk => (HOW.out.lt k hk).1)
          case measure => simp [intOf]
        · have HOW := Lib.hid hown
          clear hown
          go_wp2_with fail
          go_ret
          exact ⟨X', cx', rfl, HOW.out, HBW.out⟩
end Go.Proofs.Ytigbkihaclobgaa

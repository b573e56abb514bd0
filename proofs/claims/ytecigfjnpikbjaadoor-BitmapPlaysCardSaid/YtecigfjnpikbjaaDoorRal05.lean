/-
  Chapter 5: the reference's All and Next: contracts. Condition: the truths lie in memory.
-/
import Derived.Test.YtecigfjnpikbjaaDoorItr05
import Derived.Test.YtecigfjnpikbjaaDoorBm4
import Derived.Test.YtecigfjnpikbjaaDoorBm12
import Derived.Test.YtecigfjnpikbjaaDoorLaw05
namespace Go.Proofs.YtecigfjnpikbjaaDoor
open Go.RowKit
theorem allB_succ (bs : List Bool) (k : Nat) : allB bs (k + 1) = allB bs k ++ if bs.getD k false = true then [(k : Int)] else [] := by
  unfold allB
  rw [List.range_succ, List.filter_append, List.map_append]
  congr 1
  have e : [k].filter (fun j => bs.getD j false) = if bs.getD k false = true then [k] else [] := by rw [List.filter_cons, List.filter_nil]
  rw [e]
  split <;> rfl
theorem allB_len (bs : List Bool) : ∀ k, (allB bs k).length ≤ k
  | 0 => by simp [allB]
  | k + 1 => by
    rw [allB_succ, List.length_append]
    have := allB_len bs k
    split <;> simp <;> omega
theorem cnt_all (bs : List Bool) : ∀ k, cntB bs k = (allB bs k).length
  | 0 => rfl
  | k + 1 => by
    rw [allB_succ, List.length_append, ← cnt_all bs k]
    show cntB bs (k + 1) = _
    simp only [cntB]
    cases h : bs.getD k false <;> simp
theorem oneint (w : World) (x : Int) (t : TypeId) : ∀ j u, [Value.int .i64 x][j]? = some u → (w.alloc (.cells #[.int .i64 x] t)).cell? ((⟨w.heap.size, 0, none⟩ : Addr).add j) = some u := by
  intro j u hu
  match j, hu with
  | 0, hu => simp at hu; rw [← hu]; simp [go_sem]
set_option maxHeartbeats 2000000 in
theorem rall_any (B : Option Addr) (n cb : Nat) (bs : List Bool) (w : World) (hl : bs.length = n) (hn : n ≤ 4096) (hr : Row w w.heap.size B (boolVals bs)) : Calls Tryd.prog 21 #[.slice B n cb] w fun e w' => ∃ A c, e = .returned (.slice A (allB bs n).length c) ∧ Own w' w.heap.size 3 1 A (allB bs n).length c (ints (allB bs n)) ∧ Below w.heap.size w w' := by
  obtain ⟨i0, hi, hz0, hz1, hz2⟩ := info_parts Tryd.infoI64x
  have HI := Lib.hid hi
  have HZ0 := Lib.hid hz0
  have HZ1 := Lib.hid hz1
  have HZ2 := Lib.hid hz2
  have HR := Lib.hid hr
  have HL := Lib.hid hl
  clear hi hz0 hz1 hz2 hl hr
  go_enter Tryd.func21, Tryd.ntmps21
  go_wp2_with fail
  go_loopw [3, 4] (fun v2 vi wr => ∃ (k : Nat) (A : Option Addr) (c : Nat), k ≤ n ∧ vi = .int .i64 k ∧ v2 = .slice A (allB bs k).length c ∧ Own wr w.heap.size 3 1 A (allB bs k).length c (ints (allB bs k)) ∧ Below w.heap.size w wr) (fun _ vi _ => n - (intOf vi).toNat)
  case atStart => exact ⟨0, none, 0, by omega, rfl, rfl, Own.nil _ _ _ _, Below.refl _ _⟩
  case round =>
    obtain ⟨k, A, c, hk, rfl, rfl, hO, hB⟩ := hrel
    have HO := Lib.hid hO
    have HB := Lib.hid hB
    have hsz : w.heap.size ≤ wr.heap.size := hB.size
    clear hO hB
    by_cases hlt : k < n
    · have hkb : k < bs.length := by rw [HL.out]; exact hlt
      obtain ⟨b, off, rfl, hbl, hc⟩ := HR.out.at_ (k := k) (by simpa [boolVals] using hkb)
      have hcx : wr.cell? ⟨b, off + k, none⟩ = some (.bool bs[k]) := (HB.out.cell (p := ⟨b, off + k, none⟩) hbl).trans (hc k _ (boolVals_at bs k hkb))
      have hal := allB_succ bs k
      have hgd : bs.getD k false = bs[k] := by simp [hkb]
      rw [hgd] at hal
      have hle := allB_len bs k
      have HAL := Lib.hid hal
      have c1 : Hid ((allB bs k).length + 1 ≤ maxLen) := by unfold maxLen; show _ ≤ _; omega
      generalize bs[k] = x at *
      clear hal hgd hc
      cases x with
      | true =>
        go_wp2_with (at_builtin; go_must (refine wpList_append_1 _ rfl _ _ 43 rfl w.heap.size 3 i0 _ 1 8 Tryd.underlying43 HI.out HZ0.out HZ1.out HZ2.out rfl (by decide) _ _ _ _ rfl (HO.out.alloc _) ⟨wr.heap.size, 0, none⟩ 1 [.int .i64 (k : Int)] rfl rfl (oneint _ _ _) (by simp [Value.oneCell']) c1.out (by omega) (by rw [World.size_alloc]; omega) ?_); intro A' c' w5 hown1 hgrow1 hat1)
        go_roundw
        case rel =>
          have e1 : (allB bs (k + 1)).length = (allB bs k).length + 1 := by rw [HAL.out]; simp
          have e2 : ints (allB bs (k + 1)) = ints (allB bs k) ++ [.int .i64 (k : Int)] := by rw [HAL.out]; simp [ints]
          exact ⟨k + 1, A', c', by omega, by go_num, by rw [e1], by rw [e1, e2]; exact hown1, below_append HB.out HO.out (Nat.le_refl _) hsz hgrow1⟩
        case measure => simp [intOf]; omega
      | false =>
        go_wp2_with fail
        go_roundw
        case rel =>
          have e1 : allB bs (k + 1) = allB bs k := by rw [HAL.out]; simp
          exact ⟨k + 1, A, c, by omega, by go_num, by rw [e1], by rw [e1]; exact HO.out, HB.out⟩
        case measure => simp [intOf]; omega
    · have hkn : k = n := by omega
      subst hkn
      go_wp2_with fail
      go_ret
      exact ⟨A, c, rfl, HO.out, HB.out⟩
set_option maxHeartbeats 2000000 in
theorem rnext_any (B : Option Addr) (n cb : Nat) (bs : List Bool) (i : Int) (w : World) (hl : bs.length = n) (hn : n ≤ 4096) (hr : Row w w.heap.size B (boolVals bs)) : Calls Tryd.prog 24 #[.slice B n cb, .int .i64 i] w fun e w' => e = .returned (.int .i64 (nextN bs i.toNat)) ∧ w = w' := by
  have HR := Lib.hid hr
  have HL := Lib.hid hl
  clear hl hr
  have hss : ∃ s : Nat, Hid (i.toNat = s) := ⟨_, rfl⟩
  obtain ⟨s, HS⟩ := hss
  rw [HS.out]
  have hcase : (0 ≤ i ∧ i = (s : Int)) ∨ (i < 0 ∧ s ≤ 0) := by have := HS.out; omega
  clear HS
  rcases hcase with ⟨hi, rfl⟩ | ⟨hi, hs0⟩
  all_goals
    go_enter Tryd.func24, Tryd.ntmps24
    go_wp2_with fail
    go_loop [5] (fun v => ∃ k : Nat, v = .int .i64 k ∧ Hid (∀ j, s ≤ j → j < k → bs.getD j false = false) ∧ s ≤ k) (fun v => n - (intOf v).toNat)
    case atStart => first | exact ⟨s, rfl, (fun j h1 h2 => by omega), by omega⟩ | exact ⟨0, rfl, (fun j h1 h2 => by omega), by omega⟩
    case round =>
      obtain ⟨k, rfl, HK, hsk⟩ := hrel
      by_cases hlt : k < n
      · have hkb : k < bs.length := by rw [HL.out]; exact hlt
        obtain ⟨b, off, rfl, hbl, hc⟩ := HR.out.at_ (k := k) (by simpa [boolVals] using hkb)
        have hcx : w.cell? ⟨b, off + k, none⟩ = some (.bool bs[k]) := hc k _ (boolVals_at bs k hkb)
        have hgd : bs.getD k false = bs[k] := by simp [hkb]
        have HGD := Lib.hid hgd
        generalize bs[k] = x at *
        clear hgd hc
        cases x with
        | true =>
          go_wp2_with fail
          go_ret
          exact ⟨by rw [nextN_some hsk HGD.out HK.out]; rfl, rfl⟩
        | false =>
          go_wp2_with fail
          go_round
          case rel =>
            refine ⟨k + 1, by go_num, fun j h1 h2 => ?_, by omega⟩
            by_cases hj : j = k
            · rw [hj]; exact HGD.out
            · exact HK.out j h1 (by omega)
          case measure => simp [intOf]; omega
      · go_wp2_with fail
        go_ret
        refine ⟨?_, rfl⟩
        rw [nextN_none (fun j hj => by
          by_cases hjk : j < k
          · exact HK.out j hj hjk
          · exact getD_out (by rw [HL.out]; omega))]
        rfl
end Go.Proofs.YtecigfjnpikbjaaDoor

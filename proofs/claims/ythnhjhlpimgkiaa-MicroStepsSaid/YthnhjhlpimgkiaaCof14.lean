/-
  The law's cellsOf: cells that hold numbers.
-/
import Derived.Test.YthnhjhlpimgkiaaLai14
namespace Go.Proofs.Ythnhjhlpimgkiaa
open Go.RowKit
/-- The numbers, so many of them stored. -/
def part (l : List Int) (k : Nat) : List Int := l.take k ++ List.replicate (l.length - k) 0
theorem part_length (l : List Int) (k : Nat) (h : k ≤ l.length) : (part l k).length = l.length := by
  simp [part]; omega
theorem part_next (l : List Int) (k : Nat) (h : k < l.length) : (part l k).set k l[k] = part l (k + 1) := by
  apply List.ext_getElem
  · simp [part]; omega
  · intro i h1 h2
    rw [List.getElem_set]
    split
    · rename_i e
      subst e
      simp only [part]
      rw [List.getElem_append_left (by simp; omega)]
      simp
    · rename_i e
      simp only [part]
      by_cases hk : i < k
      · rw [List.getElem_append_left (by simp; omega), List.getElem_append_left (by simp; omega)]
        simp
      · rw [List.getElem_append_right (by simp; omega), List.getElem_append_right (by simp; omega)]
        simp
theorem cellsOf_any {w : World} {g N : Nat} {l : List Int} (hb : Blk w g 2 (ints l).toArray) (hN : l.length = N) (hs : N ≤ 1000) :
    Calls Try.prog 18 #[.slice (some ⟨g, 0, none⟩) N N] w fun e w' => e = .returned (.pointer (some ⟨w.heap.size + 1, 0, none⟩)) ∧ CellsIs w' (w.heap.size + 1) w.heap.size N [] l N ∧ Below w.heap.size w w' := by
  obtain ⟨m, HM⟩ : ∃ m, Hid (m = w.heap.size) := ⟨_, Lib.hid rfl⟩
  have HC := Lib.hid (show Calls Try.prog 6 #[.int .i64 N] w _ from cnew_any N (by omega) w)
  have HL := Lib.hid hN
  have HB := Lib.hid hb
  have HG := Lib.hid (show g < m by rw [HM.out]; exact hb.lt)
  rw [← HM.out] at HC ⊢
  clear hb hN
  go_enter Try.func18, Try.ntmps18
  go_wp2_with (go_at_call 6; refine HC.out.mono ?_; rintro e w1 ⟨rfl, hC, hB⟩)
  have HC1 := Lib.hid (show CellsIs w1 (m + 1) m N [] (part l 0) 0 by
    have e : part l 0 = List.replicate N 0 := by simp [part, HL.out]
    rw [e]
    exact hC)
  have HB1 := Lib.hid hB
  clear hC hB
  go_wp2_with fail
  go_loopw [4] (fun vi wr => ∃ k : Nat, k ≤ N ∧ vi = .int .i64 k ∧ Hid (CellsIs wr (m + 1) m N [] (part l k) k) ∧ Hid (Below m w wr)) (fun vi _ => N - (intOf vi).toNat)
  case atStart => exact ⟨0, by omega, rfl, HC1, HB1⟩
  case round =>
    rcases hrel with ⟨k, hk, rfl, K1, K2⟩
    by_cases hlt : k < N
    · have hkl : k < l.length := by rw [HL.out]; exact hlt
      obtain ⟨x, HX⟩ : ∃ x, Hid (x = l[k]) := ⟨_, Lib.hid rfl⟩
      have HBR := HB.out.below K2.out HG.out
      have hc0 : wr.cell? ⟨g, k, none⟩ = some (.int .i64 x) := by
        rw [HBR.cell k, HX.out]
        simpa using ints_at_ l k hkl
      have HS := Lib.hid (store_any K1.out k (by rw [part_length _ _ (by omega)]; exact hkl) x (by omega))
      have hpn : (part l k).set k x = part l (k + 1) := by rw [HX.out]; exact part_next l k hkl
      rw [hpn] at HS
      clear hpn HBR HX hkl
      go_wp2_with (go_at_call 32; refine HS.out.mono ?_; rintro e w2 ⟨rfl, hC2, hV2⟩)
      refine ⟨⟨k + 1, by omega, by go_num, Lib.hid hC2, Lib.hid (K2.out.trans (hV2.low (by rw [HM.out]; exact K2.out.size) (by intro q hq; simp at hq; omega)))⟩, by simp [intOf]; omega⟩
    · obtain rfl : k = N := by omega
      go_wp2_with fail
      go_ret
      have e : part l k = l := by rw [← HL.out]; simp [part]
      exact ⟨rfl, e ▸ K1.out, K2.out⟩
end Go.Proofs.Ythnhjhlpimgkiaa

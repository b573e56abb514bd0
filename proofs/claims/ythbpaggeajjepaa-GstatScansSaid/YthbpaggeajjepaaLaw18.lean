/-
  The laws of chapter 18: GstatLooks, GstatMoves, as contracts: each returns true, and nothing that was there has changed.
-/
import Derived.Test.YthbpaggeajjepaaName18
namespace Go.Proofs.Ythbpaggeajjepaa
open Go.RowKit
theorem i64_lit (n : Int) (h : -1000000 ≤ n ∧ n ≤ 1000000) : I64 n := ⟨by omega, by omega⟩
theorem alive18 (w : World) : Calls Try.prog 34 #[] w fun e w' => e = .returned (.bool true) ∧ Below w.heap.size w w' := by
  have e1 : lockI 1 = 9 := by decide
  have e2 : lockF 1 = 0 := by decide
  have e3 : moveI 9 2 = 0 := by decide
  have e4 : moveF 9 2 = 7 := by decide
  have e5 : nameS 9 = ⟨#[114, 117, 110, 110, 97, 98, 108, 101, 43]⟩ := by kernel_rfl
  go_enter Try.func34, Try.ntmps34
  go_wp2_with (first | (go_at_call 37; refine (lock_any _ _ (i64_lit _ (by omega))).mono ?_; rintro e w' ⟨rfl, rfl⟩) | (go_at_call 40; refine (move_any _ _ _ (i64_lit _ (by omega))).mono ?_; rintro e w1 ⟨rfl, hb1⟩) | (go_at_call 32; refine (gname_any _ _ (i64_lit _ (by omega))).mono ?_; rintro e w' ⟨rfl, rfl⟩))
  go_ret
  exact ⟨rfl, hb1⟩
set_option maxHeartbeats 2000000 in
theorem looks_law (n : Int) (w : World) (hn : I64 n) : Calls Try.prog 7 #[.int .i64 n] w fun e w' => e = .returned (.bool true) ∧ Below w.heap.size w w' := by
  by_cases hb : isB n = true
  · by_cases h8 : 8 ≤ n
    · have hs : scanB n = true := by simp [scanB, hb, h8]
      go_enter Try.func7, Try.ntmps7
      go_wp2_with (first | (go_at_call 27; refine (is_any _ _ hn).mono ?_; rintro e w' ⟨rfl, rfl⟩) | (go_at_call 29; refine (base_any _ _ hn).mono ?_; rintro e w' ⟨rfl, rfl⟩) | (go_at_call 31; refine (scanned_any _ _ hn).mono ?_; rintro e w' ⟨rfl, rfl⟩) | (go_at_call 32; refine (gname_any _ _ hn).mono ?_; rintro e w' ⟨rfl, rfl⟩) | (go_at_call 28; refine (ris_any _ _ hn).mono ?_; rintro e w' ⟨rfl, rfl⟩) | (go_at_call 30; refine (rbase_any _ _ hn).mono ?_; rintro e w' ⟨rfl, rfl⟩) | (go_at_call 33; refine (rname_any _ _ hn).mono ?_; rintro e w1 ⟨rfl, hb1⟩) | (go_at_call 34; refine (alive18 _).mono ?_; rintro e w2 ⟨rfl, hb2⟩))
      go_ret
      exact ⟨rfl, hb1.trans (hb2.mono hb1.size)⟩
    · have hs : scanB n = false := by simp [scanB, h8]
      have h8' : decide (8 ≤ n) = false := by simpa using h8
      go_enter Try.func7, Try.ntmps7
      go_wp2_with (first | (go_at_call 27; refine (is_any _ _ hn).mono ?_; rintro e w' ⟨rfl, rfl⟩) | (go_at_call 29; refine (base_any _ _ hn).mono ?_; rintro e w' ⟨rfl, rfl⟩) | (go_at_call 31; refine (scanned_any _ _ hn).mono ?_; rintro e w' ⟨rfl, rfl⟩) | (go_at_call 32; refine (gname_any _ _ hn).mono ?_; rintro e w' ⟨rfl, rfl⟩) | (go_at_call 28; refine (ris_any _ _ hn).mono ?_; rintro e w' ⟨rfl, rfl⟩) | (go_at_call 30; refine (rbase_any _ _ hn).mono ?_; rintro e w' ⟨rfl, rfl⟩) | (go_at_call 33; refine (rname_any _ _ hn).mono ?_; rintro e w1 ⟨rfl, hb1⟩) | (go_at_call 34; refine (alive18 _).mono ?_; rintro e w2 ⟨rfl, hb2⟩))
      go_ret
      exact ⟨rfl, hb1.trans (hb2.mono hb1.size)⟩
  · have hb : isB n = false := by simpa using hb
    have hs : scanB n = false := by simp [scanB, hb]
    go_enter Try.func7, Try.ntmps7
    go_wp2_with (first | (go_at_call 27; refine (is_any _ _ hn).mono ?_; rintro e w' ⟨rfl, rfl⟩) | (go_at_call 29; refine (base_any _ _ hn).mono ?_; rintro e w' ⟨rfl, rfl⟩) | (go_at_call 31; refine (scanned_any _ _ hn).mono ?_; rintro e w' ⟨rfl, rfl⟩) | (go_at_call 32; refine (gname_any _ _ hn).mono ?_; rintro e w' ⟨rfl, rfl⟩) | (go_at_call 28; refine (ris_any _ _ hn).mono ?_; rintro e w' ⟨rfl, rfl⟩) | (go_at_call 30; refine (rbase_any _ _ hn).mono ?_; rintro e w' ⟨rfl, rfl⟩) | (go_at_call 33; refine (rname_any _ _ hn).mono ?_; rintro e w1 ⟨rfl, hb1⟩) | (go_at_call 34; refine (alive18 _).mono ?_; rintro e w2 ⟨rfl, hb2⟩))
    go_ret
    exact ⟨rfl, hb1.trans (hb2.mono hb1.size)⟩
set_option maxHeartbeats 2000000 in
theorem moves_law (n t : Int) (w : World) (hn : I64 n) : Calls Try.prog 9 #[.int .i64 n, .int .i64 t] w fun e w' => e = .returned (.bool true) ∧ Below w.heap.size w w' := by
  go_enter Try.func9, Try.ntmps9
  go_wp2_with (first | (go_at_call 40; refine (move_any _ _ _ hn).mono ?_; rintro e w1 ⟨rfl, hb1⟩) | (go_at_call 41; refine (rmove_any _ _ _ hn).mono ?_; rintro e w' ⟨rfl, rfl⟩) | (go_at_call 37; refine (lock_any _ _ hn).mono ?_; rintro e w' ⟨rfl, rfl⟩) | (go_at_call 42; refine (rlock_any _ _ hn).mono ?_; rintro e w' ⟨rfl, rfl⟩) | (go_at_call 39; refine (unlock_any _ _ hn).mono ?_; rintro e w' ⟨rfl, rfl⟩) | (go_at_call 43; refine (runlock_any _ _ hn).mono ?_; rintro e w' ⟨rfl, rfl⟩) | (go_at_call 44; refine (may_any _ _ _).mono ?_; rintro e w2 ⟨rfl, hb2⟩) | (go_at_call 45; refine (rmay_any _ _ _).mono ?_; rintro e w' ⟨rfl, rfl⟩) | (go_at_call 34; refine (alive18 _).mono ?_; rintro e w3 ⟨rfl, hb3⟩))
  go_ret
  have h12 := hb1.trans (hb2.mono hb1.size)
  exact ⟨rfl, h12.trans (hb3.mono h12.size)⟩
end Go.Proofs.Ythbpaggeajjepaa

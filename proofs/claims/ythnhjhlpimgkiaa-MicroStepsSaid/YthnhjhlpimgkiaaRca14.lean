/-
  The reference's round, cell and cas.
-/
import Derived.Test.YthnhjhlpimgkiaaRtk14
namespace Go.Proofs.Ythnhjhlpimgkiaa
open Go.RowKit
theorem rround_any (n : Int) (w : World) : Calls Try.prog 50 #[.int .i64 n] w fun e w' => e = .returned (.int .i64 (u n)) ∧ w = w' := by
  have h := mod_u n
  go_enter Try.func50, Try.ntmps50
  go_wp2
  go_ret
  exact ⟨rfl, rfl⟩
theorem rcell_any (n : Int) (sz : Nat) (hs : sz = 2 ∨ sz = 4 ∨ sz = 8) (w : World) : Calls Try.prog 51 #[.int .i64 n, .int .i64 sz] w fun e w' => e = .returned (.int .i64 ((3 + u n % sz : Nat) : Int)) ∧ w = w' := by
  have hu := u_lt n
  have HR := Lib.hid (rround_any n w)
  generalize u n = x at HR hu ⊢
  rcases hs with rfl | rfl | rfl <;>
  · go_enter Try.func51, Try.ntmps51
    go_wp2_with (go_at_call 50; refine HR.out.mono ?_; rintro e w1 ⟨rfl, rfl⟩)
    go_ret
    exact ⟨rfl, rfl⟩
theorem blk_at {w : World} {g : Nat} {xs : List Int} (h : Blk w g 2 (ints xs).toArray) (i : Nat) (hi : i < xs.length) : w.cell? ⟨g, i, none⟩ = some (.int .i64 xs[i]) := by
  rw [h.cell i]
  simpa using ints_at_ xs i hi
theorem rcas_any {w : World} {g N : Nat} {xs : List Int} (h : Blk w g 2 (ints xs).toArray) (hN : xs.length = N) (i : Nat) (hi : i < xs.length) (o y : Int) :
    Calls Try.prog 49 #[.slice (some ⟨g, 0, none⟩) N N, .int .i64 i, .int .i64 o, .int .i64 y] w fun e w' => e = .returned (.bool (decide (xs[i] = o))) ∧ w' = (if xs[i] = o then w.setCell ⟨g, i, none⟩ (.int .i64 y) else w) := by
  have hc := blk_at h i hi
  have hf := h.frozen i
  have hiN : i < N := by omega
  generalize xs[i] = x at hc ⊢
  clear h hi hN
  by_cases hx : x = o
  · have hb : (x == o) = true := by simpa using hx
    rw [if_pos hx]
    have hd : decide (x = o) = true := by simpa using hx
    rw [hd]
    clear hx hd
    go_enter Try.func49, Try.ntmps49
    go_wp2
    go_ret
    exact ⟨rfl, rfl⟩
  · have hb : (x == o) = false := by simpa using hx
    rw [if_neg hx]
    have hd : decide (x = o) = false := by simpa using hx
    rw [hd]
    clear hx hd
    go_enter Try.func49, Try.ntmps49
    go_wp2
    go_ret
    exact ⟨rfl, rfl⟩
end Go.Proofs.Ythnhjhlpimgkiaa

/-
  Chapter 2, as chapter 14 uses it: cells.New.
-/
import Derived.Test.YthnhjhlpimgkiaaCst14
namespace Go.Proofs.Ythnhjhlpimgkiaa
open Go.RowKit
theorem Try.underlying31 : Try.prog.underlying 31 = some (.slice 2) := by kernel_rfl
theorem Try.info2 : (Try.prog.info? 2).map (fun i => (i.zero, i.size, i.bytes)) = some (some (.int .i64 0), 1, 8) := by kernel_rfl
theorem made_list (z : Value) (n : Nat) : madeCells #[z] n = (List.replicate n z).toArray := by
  apply Array.ext
  · rw [size_madeCells]; simp
  · intro i h1 h2
    rw [size_madeCells] at h1
    simp [madeCells, Nat.mod_one]
theorem cnew_bad (n : Int) (h : n < 0 ∨ 4096 < n) (w : World) : Calls Try.prog 6 #[.int .i64 n] w fun e w' => e = .returned (.pointer none) ∧ w = w' := by
  by_cases h0 : n < 0
  · clear h
    go_enter Try.func6, Try.ntmps6
    go_wp2
    go_ret
    exact ⟨rfl, rfl⟩
  · have h1 : n > 4096 := by omega
    clear h
    go_enter Try.func6, Try.ntmps6
    go_wp2
    go_ret
    exact ⟨rfl, rfl⟩
theorem cnew_any (n : Nat) (hn : n ≤ 4096) (w : World) : Calls Try.prog 6 #[.int .i64 n] w fun e w' => e = .returned (.pointer (some ⟨w.heap.size + 1, 0, none⟩)) ∧ CellsIs w' (w.heap.size + 1) w.heap.size n [] (List.replicate n 0) 0 ∧ Below w.heap.size w w' := by
  have hmk : ∀ w, (Instr.makeSlice 31 (.int .i64 (n : Int)) (.int .i64 (n : Int))).run Try.prog w = .ok (.slice (some ⟨w.heap.size, 0, none⟩) n n) (w.alloc (.cells (madeCells #[.int .i64 0] n) 2)) :=
    run_make_row' _ _ _ _ Try.underlying31 Try.info2 rfl _ _ n (by omega) (by omega)
  have h0 : ¬ (n : Int) < 0 := by omega
  have h1 : ¬ (n : Int) > 4096 := by omega
  go_enter Try.func6, Try.ntmps6
  go_wp2
  go_ret
  have hm : madeCells #[Value.int .i64 0] n = (ints (List.replicate n 0) ++ []).toArray := by
    rw [made_list, List.append_nil]
    simp [ints]
  refine ⟨rfl, ⟨?_, ?_, by omega, by omega, by simpa using hn⟩, ((Below.refl _ w).alloc (Nat.le_refl _) _).alloc (by simp) _⟩
  · have := Blk.new (w.alloc (.cells (madeCells #[.int .i64 0] n) 2)) 57 #[.slice (some ⟨w.heap.size, 0, none⟩) n n, .int .i64 0]
    simpa using this
  · have := (Blk.new w 2 (madeCells #[.int .i64 0] n)).alloc (.cells #[.slice (some ⟨w.heap.size, 0, none⟩) n n, .int .i64 0] 57)
    have h2 := congrArg (Blk ((w.alloc (.cells (madeCells #[.int .i64 0] n) 2)).alloc (.cells #[.slice (some ⟨w.heap.size, 0, none⟩) n n, .int .i64 0] 57)) w.heap.size 2) hm
    have h3 := h2 ▸ this
    simpa using h3
end Go.Proofs.Ythnhjhlpimgkiaa

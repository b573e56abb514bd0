/-
  Chapter 33: contracts of gen.op, right, spawns, put. Conditions: what they are handed lies in memory.
-/
import Derived.Test.YtlkmpafendggiaaDoorMend9b
import Derived.Test.YtlkmpafendggiaaDoorMix
import Derived.Test.YtlkmpafendggiaaDoorApp
import Derived.Test.YtlkmpafendggiaaDoorDice
import Derived.Deep.DeepMust
namespace Go.Proofs.YtlkmpafendggiaaDoor
open Go.RowKit
theorem gop_any (o a : Int) (w : World) : Calls Tryd.prog 58 #[.int .i64 o, .int .i64 a] w fun e w' => e = .returned (.agg #[.int .i64 o, .int .i64 a, .int .i64 0, .int .i64 0, .int .i64 0]) ∧ Below w.heap.size w w' := by
  go_enter Tryd.func58, Tryd.ntmps58
  go_wp2
  exact bodyPost_ret (v := .agg #[.int .i64 o, .int .i64 a, .int .i64 0, .int .i64 0, .int .i64 0]) (by simp [results, Tryd.results58, go_sem]) rfl ⟨rfl, ((Below.refl _ _).alloc (Nat.le_refl _) _)⟩
def rightB (n : Int) : Bool := decide (1 ≤ n) && decide (n ≤ 61)
theorem right_any (n : Int) (w : World) : Calls Tryd.prog 55 #[.int .i64 n] w fun e w' => e = .returned (.bool (rightB n)) ∧ w = w' := by
  by_cases h1 : 1 ≤ n
  · by_cases h2 : n ≤ 61
    · have e : rightB n = true := by simp [rightB, h1, h2]
      rw [e]
      go_enter Tryd.func55, Tryd.ntmps55
      go_wp2
      go_ret
      exact ⟨rfl, rfl⟩
    · have e : rightB n = false := by simp [rightB, h2]
      have h2' : decide (n ≤ 61) = false := by simpa using h2
      rw [e]
      go_enter Tryd.func55, Tryd.ntmps55
      go_wp2
      go_ret
      exact ⟨rfl, rfl⟩
  · have e : rightB n = false := by simp [rightB, h1]
    have h1' : decide (1 ≤ n) = false := by simpa using h1
    rw [e]
    go_enter Tryd.func55, Tryd.ntmps55
    go_wp2
    go_ret
    exact ⟨rfl, rfl⟩
def spawnIns : Ins := ⟨10, 0, 0, 0, 1⟩
theorem insCells (w : World) (x : Ins) (t : TypeId) : ∀ j u, (insVals x)[j]? = some u → (w.alloc (.cells #[.int .i64 x.op, .int .i64 x.a, .int .i64 x.b, .int .i64 x.c, .int .i64 x.n] t)).cell? ((⟨w.heap.size, 0, none⟩ : Addr).add j) = some u := by
  intro j u hu
  have hb := (Blk.new w t #[.int .i64 x.op, .int .i64 x.a, .int .i64 x.b, .int .i64 x.c, .int .i64 x.n])
  rw [Go.WideShapes.add_plain, Nat.zero_add, hb.cell j]
  simpa [insVals] using hu
set_option maxHeartbeats 2000000 in
set_option maxRecDepth 100000 in
theorem spawns_any (k : Nat) (hk : k ≤ 61) (X : Option Addr) (m d : Nat) (l : List Ins) (w : World) (hl : l.length = m) (hm : m ≤ 10) (hr : Row w w.heap.size X (l.flatMap insVals)) :
    Calls Tryd.prog 57 #[.int .i64 k, .slice X m d] w fun e w' => ∃ A' c', e = .returned (.slice A' (k + m) c') ∧ Own w' w.heap.size 26 5 A' (k + m) c' ((List.replicate k spawnIns ++ l).flatMap insVals) ∧ Below w.heap.size w w' := by
  obtain ⟨i0, hi, hz0, hz1, hz2⟩ := info_parts Tryd.infoIns
  have HI := Lib.hid hi
  have HZ0 := Lib.hid hz0
  have HZ1 := Lib.hid hz1
  have HZ2 := Lib.hid hz2
  have HL := Lib.hid hl
  have HR := Lib.hid hr
  clear hi hz0 hz1 hz2 hl hr
  go_enter Tryd.func57, Tryd.ntmps57
  go_wp2_with fail
  go_loopw [4, 6] (fun v4 vi wr => ∃ (j : Nat) (A : Option Addr) (c : Nat), j ≤ k ∧ vi = .int .i64 j ∧ v4 = .slice A j c ∧ Own wr w.heap.size 26 5 A j c ((List.replicate j spawnIns).flatMap insVals) ∧ Below w.heap.size w wr) (fun _ vi _ => k - (intOf vi).toNat)
  case atStart => exact ⟨0, none, 0, by omega, rfl, rfl, Own.nil _ _ _ _, Below.refl _ _⟩
  case round =>
    obtain ⟨j, A, c, hj, rfl, rfl, hO, hB⟩ := hrel
    have HO := Lib.hid hO
    have HB := Lib.hid hB
    have hsz : w.heap.size ≤ wr.heap.size := hB.size
    clear hO hB
    by_cases hlt : j < k
    · have c1 : Hid (j + 1 ≤ maxLen) := by unfold maxLen; show _ ≤ _; omega
      go_wp2_with (at_builtin; go_must (refine wpList_append_1 _ rfl (.tmp 8) (.tmp 10) 38 rfl w.heap.size 26 i0 _ 5 40 Tryd.underlying38 HI.out HZ0.out HZ1.out HZ2.out rfl (by decide) _ _ _ _ rfl (HO.out.alloc _) ⟨wr.heap.size, 0, none⟩ 1 (insVals spawnIns) rfl rfl (insCells wr spawnIns _) (by simp [insVals, Value.oneCell']) c1.out (by omega) (by rw [World.size_alloc]; omega) ?_); intro A' c' w1 hown1 hgrow1 hat1)
      go_roundw
      case rel => exact ⟨j + 1, A', c', by omega, by go_num, rfl, by rw [List.replicate_succ', List.flatMap_append]; simpa using hown1, below_append HB.out HO.out (Nat.le_refl _) hsz hgrow1⟩
      case measure => simp [intOf]; omega
    · have hjk : j = k := by omega
      subst hjk
      have hrow := HR.out.below HB.out
      have hlen : (l.flatMap insVals).length = m * 5 := by rw [flat_length insVals_len, HL.out]
      have HROW := Lib.hid hrow
      have HLEN := Lib.hid hlen
      have H1 := Lib.hid (insVals_one l)
      have c1 : Hid (j + m ≤ maxLen) := by unfold maxLen; show _ ≤ _; omega
      clear hrow hlen
      go_wp2_with (at_builtin; go_must (refine wpList_append_row _ rfl (.tmp 13) (.tmp 14) 38 rfl w.heap.size 26 i0 _ 5 40 Tryd.underlying38 HI.out HZ0.out HZ1.out HZ2.out rfl (by decide) _ _ _ _ rfl HO.out X m d _ (l.flatMap insVals) rfl HLEN.out HROW.out H1.out c1.out (by omega) hsz ?_); intro A' c' w1 hown1 hgrow1 hat1)
      go_ret
      exact ⟨A', c', rfl, by rw [List.flatMap_append]; exact hown1, HB.out.grown hgrow1 hsz (fun q hq => (HO.out.lt q hq).1)⟩
theorem makeFact (n : Nat) (hn : n ≤ 100) : ∀ w, (Instr.makeSlice 39 (.int .i64 (n : Int)) (.int .i64 (n : Int))).run Tryd.prog w = .ok (.slice (some ⟨w.heap.size, 0, none⟩) n n) (w.alloc (.cells (madeCells #[.bool false] n) 4)) :=
  run_make_row' _ _ _ _ Tryd.underlying39 Tryd.infoBool rfl _ _ n (by omega) (by omega)
/-- What put leaves: the maker holds one function more. -/
def Put (w w' : World) (g : Nat) (v0 : Value) (G : Option Addr) (k : Nat) (rows : List Value) (C : Option Addr) (n c : Nat) : Prop :=
  ∃ G' cG', Blk w' g 77 #[v0, .slice G' (k + 1) cG'] ∧ Own w' (g + 1) 41 2 G' (k + 1) cG' (rows ++ [.slice C n c, .slice (some ⟨w.heap.size, 0, none⟩) n n]) ∧ Blk w' w.heap.size 4 (List.replicate n (.bool false)).toArray ∧
    (ob G' = ob G ∨ ob G' = some (w.heap.size + 2)) ∧ Below g w w' ∧ w.heap.size < w'.heap.size ∧ ∀ b, b < w.heap.size → b ≠ g → ob G ≠ some b → w'.heap[b]? = w.heap[b]?
theorem put_done {w w1 : World} {g : Nat} {v0 : Value} {G G' : Option Addr} {k cG cG' : Nat} {rows : List Value} {C : Option Addr} {n c : Nat} {o : Obj} (h1 : Blk w g 77 #[v0, .slice G k cG]) (h2 : Own w (g + 1) 41 2 G k cG rows)
    (hown : Own w1 (g + 1) 41 2 G' (k + 1) cG' (rows ++ [.slice C n c, .slice (some ⟨w.heap.size, 0, none⟩) n n])) (hg : ((w.alloc (.cells (madeCells #[.bool false] n) 4)).alloc o).grownBy w1 (ob G)) (hat : ob G' = ob G ∨ ob G' = some ((w.alloc (.cells (madeCells #[.bool false] n) 4)).alloc o).heap.size) :
    Put w (w1.setCell ⟨g, 1, none⟩ (.slice G' (k + 1) cG')) g v0 G k rows C n c := by
  have hgl := h1.lt
  have hne : ob G ≠ some g := fun e => by have := (h2.lt g e).1; omega
  have hneS : ob G ≠ some w.heap.size := fun e => by have := (h2.lt _ e).2; omega
  have hbb : ∀ b, b < w.heap.size → b ≠ g → ob G ≠ some b → (w1.setCell ⟨g, 1, none⟩ (.slice G' (k + 1) cG')).heap[b]? = w.heap[b]? := fun b hb h3 h4 =>
    (Below.heap_setCell _ _ _ _ h3).trans ((hg.block b (by simp; omega) (fun e => h4 e.symm)).trans ((Below.heap_alloc _ _ _ (by simp; omega)).trans (Below.heap_alloc _ _ _ hb)))
  have hsz := hg.size
  simp only [World.size_alloc] at hsz
  have hs2 : (w1.setCell ⟨g, 1, none⟩ (.slice G' (k + 1) cG')).heap.size = w1.heap.size := by simp [World.setCell]
  refine ⟨G', cG', ?_, hown.setCell _ _ (hown.ne_lt (show g < g + 1 by omega)), ?_, ?_, ⟨?_, ?_, ?_, by rw [hs2]; omega, fun b hb => ?_⟩, by rw [hs2]; omega, hbb⟩
  · have := (((h1.alloc _).alloc o).grown hg (fun e => hne e.symm)).set_ 1 (.slice G' (k + 1) cG')
    simpa using this
  · have hb := ((Blk.new w 4 (madeCells #[.bool false] n)).alloc o).grown hg (fun e => hneS e.symm)
    rw [made_list] at hb
    exact hb.far (show w.heap.size ≠ g by omega) _
  · rcases hat with e | e
    · exact .inl e
    · right; rw [e]; simp
  · exact hg.os
  · exact hg.tape
  · exact hg.output
  · have : ob G ≠ some b := fun e => by have := (h2.lt b e).1; omega
    exact hbb b (by omega) (by omega) this
set_option maxHeartbeats 2000000 in
set_option maxRecDepth 100000 in
theorem put_any (g : Nat) (v0 : Value) (G : Option Addr) (k cG : Nat) (rows : List Value) (C : Option Addr) (n c : Nat) (w : World) (h1 : Blk w g 77 #[v0, .slice G k cG]) (h2 : Own w (g + 1) 41 2 G k cG rows) (hk : k ≤ 50) (hn : n ≤ 100) :
    Calls Tryd.prog 56 #[.pointer (some ⟨g, 0, none⟩), .slice C n c] w fun e w' => e = .returned (.tuple #[]) ∧ Put w w' g v0 G k rows C n c := by
  obtain ⟨i0, hi, hz0, hz1, hz2⟩ := info_parts Tryd.infoFn
  have HI := Lib.hid hi
  have HZ0 := Lib.hid hz0
  have HZ1 := Lib.hid hz1
  have HZ2 := Lib.hid hz2
  have H1 := Lib.hid h1
  have H2 := Lib.hid h2
  have hgl := h1.lt
  have F0 : ∀ w' : World, (w'.cell? ⟨g, 1, none⟩ = some (.slice G k cG)) → w'.cell? ⟨g, 1, none⟩ = some (.slice G k cG) := fun _ h => h
  have hmk := makeFact n hn
  clear hi hz0 hz1 hz2 h1 h2
  go_enter Tryd.func56, Tryd.ntmps56
  go_wp2_with fail
  refine region_mixE (fun w' => w'.cell? ⟨g, 1, none⟩ = some (.slice G k cG)) 3 [9, 1, 0] (by kernel_rfl) (by kernel_rfl) (by kernel_rfl) (fun _ _ d _ _ h => by cases d <;> exact h) (H1.out.cell 1) ?_
  (try simp only [Act.put, List.setIfInBounds_toArray, List.set_cons_zero, List.set_cons_succ]); refine mixE_seg ?_; simp only [List.take_succ_cons, List.take_zero, List.drop_succ_cons, List.drop_zero]; (repeat (first | go_big_quiet_skip | (go_big_quiet_want; first | (go_big_quiet_op; first | go_big_quiet_on | ((first | with_reducible refine ⟨_, fun _ _ => rfl, ?_⟩); go_big_quiet_on)) | (simp (contextual := true) [go_sem, F0]; with_reducible refine ⟨_, fun _ _ => rfl, ?_⟩; go_big_quiet_on)))); refine wpQuiet_nil ?_
  go_wp2_with fail
  have q1 := (H1.out.alloc (.cells (madeCells #[.bool false] n) 4)).cell 1
  simp at q1
  refine ⟨q1, ?_⟩
  (try simp only [Act.put, List.setIfInBounds_toArray, List.set_cons_zero, List.set_cons_succ]); refine mixE_seg ?_; simp only [List.take_succ_cons, List.take_zero, List.drop_succ_cons, List.drop_zero]; (repeat (first | go_big_quiet_skip | (go_big_quiet_want; first | (go_big_quiet_op; first | go_big_quiet_on | ((first | with_reducible refine ⟨_, fun _ _ => rfl, ?_⟩); go_big_quiet_on)) | (simp (contextual := true) [go_sem, F0]; with_reducible refine ⟨_, fun _ _ => rfl, ?_⟩; go_big_quiet_on)))); refine wpQuiet_nil ?_
  go_wp2_with fail
  have q2 := ((H1.out.alloc (.cells (madeCells #[.bool false] n) 4)).alloc (.cells #[.slice C n c, .slice (some ⟨w.heap.size, 0, none⟩) n n] 41)).cell 1
  simp at q2
  refine ⟨q2, ?_⟩
  (try simp only [Act.put, List.setIfInBounds_toArray, List.set_cons_zero, List.set_cons_succ]); refine mixE_seg ?_; simp only [List.take_succ_cons, List.take_zero, List.drop_succ_cons, List.drop_zero]; (repeat (first | go_big_quiet_skip | (go_big_quiet_want; first | (go_big_quiet_op; first | go_big_quiet_on | ((first | with_reducible refine ⟨_, fun _ _ => rfl, ?_⟩); go_big_quiet_on)) | (simp (contextual := true) [go_sem, F0]; with_reducible refine ⟨_, fun _ _ => rfl, ?_⟩; go_big_quiet_on)))); refine wpQuiet_nil ?_
  have c1 : Hid (k + 1 ≤ maxLen) := by unfold maxLen; show _ ≤ _; omega
  have hcel : ∀ j u, (fnaVals ⟨C, n, c, some ⟨w.heap.size, 0, none⟩, n, n⟩)[j]? = some u → ((w.alloc (.cells (madeCells #[.bool false] n) 4)).alloc (.cells #[.slice C n c, .slice (some ⟨w.heap.size, 0, none⟩) n n] 41)).cell? ((⟨w.heap.size + 1, 0, none⟩ : Addr).add j) = some u := cells2 (by simp [go_sem]) (by simp [go_sem])
  have HCEL := Lib.hid hcel
  have HOWN := Lib.hid ((H2.out.alloc (.cells (madeCells #[.bool false] n) 4)).alloc (.cells #[.slice C n c, .slice (some ⟨w.heap.size, 0, none⟩) n n] 41))
  clear hcel hmk
  go_wp2_with (at_builtin; go_must (refine wpList_append_1 _ rfl (.tmp 9) (.tmp 15) 30 rfl (g + 1) 41 i0 _ 2 48 Tryd.underlying30 HI.out HZ0.out HZ1.out HZ2.out rfl (by decide) _ _ _ _ rfl HOWN.out ⟨w.heap.size + 1, 0, none⟩ 1 (fnaVals ⟨C, n, c, some ⟨w.heap.size, 0, none⟩, n, n⟩) rfl rfl HCEL.out (by simp [fnaVals, Value.oneCell']) c1.out (by omega) (by simp; omega) ?_); intro G' cG' w5 hown1 hgrow1 hat1)
  have hgrow2 : ((w.alloc (.cells (madeCells #[.bool false] n) 4)).alloc (.cells #[.slice C n c, .slice (some ⟨w.heap.size, 0, none⟩) n n] 41)).grownBy w5 (ob G) := ⟨hgrow1.os, hgrow1.tape, hgrow1.output, hgrow1.size, hgrow1.block⟩
  have hne : ob G ≠ some g := fun e => by have := (H2.out.lt g e).1; omega
  have hb5 := ((H1.out.alloc _).alloc _).grown hgrow2 (fun e => hne e.symm)
  have q3 := hb5.cell 1
  have q4 := hb5.frozen 1
  simp at q3
  have HP := Lib.hid (put_done H1.out H2.out hown1 hgrow2 hat1)
  refine ⟨q3, ?_⟩
  (try simp only [Act.put, List.setIfInBounds_toArray, List.set_cons_zero, List.set_cons_succ]); refine mixE_end ?_; simp only [List.take_succ_cons, List.take_zero, List.drop_succ_cons, List.drop_zero]; (repeat (first | go_big_quiet_skip | (go_big_quiet_want; first | (go_big_quiet_op; first | go_big_quiet_on | ((first | with_reducible refine ⟨_, fun _ _ => rfl, ?_⟩); go_big_quiet_on)) | (simp (contextual := true) [go_sem, F0]; with_reducible refine ⟨_, fun _ _ => rfl, ?_⟩; go_big_quiet_on)))); refine wpQuiet_nil ?_
  clear F0 hgrow1 hgrow2 hat1 hown1 hb5 hne
  go_wp2_with fail
  go_end0
  exact ⟨rfl, HP.out⟩
end Go.Proofs.YtlkmpafendggiaaDoor

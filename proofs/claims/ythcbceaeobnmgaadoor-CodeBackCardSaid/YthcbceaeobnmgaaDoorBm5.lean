/-
  Chapter 5: contract of Bytes. Condition: the map lies in memory.
-/
import Derived.Test.YthcbceaeobnmgaaDoorByt
namespace Go.Proofs.YthcbceaeobnmgaaDoor
open Go.RowKit
theorem Tryd.infoU8 : (Tryd.prog.info? 5).map (fun i => (i.zero, i.size, i.bytes)) = some (some (.int .u8 0), 1, 1) := by kernel_rfl
theorem onecell (w : World) (v : Value) (t : TypeId) : ∀ j u, [v][j]? = some u → (w.alloc (.cells #[v] t)).cell? ((⟨w.heap.size, 0, none⟩ : Addr).add j) = some u := by
  intro j u hu
  match j, hu with
  | 0, hu => simp at hu; rw [← hu]; simp [go_sem]
set_option maxHeartbeats 2000000 in
set_option maxRecDepth 100000 in
theorem bytes_any {w : World} {g gw : Nat} {ws : List Nat} {bs : List Bool} (M : Bm w g gw ws bs) : Calls Tryd.prog 23 #[.pointer (some ⟨g, 0, none⟩)] w fun e w' => ∃ A c, e = .returned (.slice A (bytesOf bs).length c) ∧ Own w' w.heap.size 5 1 A (bytesOf bs).length c (byteVals (bytesOf bs)) ∧ Below w.heap.size w w' := by
  obtain ⟨i0, hi, hz0, hz1, hz2⟩ := info_parts Tryd.infoU8
  have HI := Lib.hid hi
  have HZ0 := Lib.hid hz0
  have HZ1 := Lib.hid hz1
  have HZ2 := Lib.hid hz2
  have HM := Lib.hid M
  have hsm := M.small
  have h0 := M.blk.cell 0
  simp at h0
  generalize hn : bs.length = n at *
  have HN := Lib.hid hn
  have F0 : ∀ w' : World, (w'.cell? ⟨g, 0, none⟩ = some (.int .i64 n)) → w'.cell? ⟨g, 0, none⟩ = some (.int .i64 n) := fun _ h => h
  clear hi hz0 hz1 hz2 M hn
  go_enter Tryd.func23, Tryd.ntmps23
  go_wp2_with fail
  refine region_mix (fun w' => w'.cell? ⟨g, 0, none⟩ = some (.int .i64 n)) [11] (by kernel_rfl) (by kernel_rfl) (by kernel_rfl) (fun _ _ d _ _ h => by cases d <;> exact h) h0 ?_
  (try simp only [Act.put, List.setIfInBounds_toArray, List.set_cons_zero, List.set_cons_succ]); refine mix_seg ?_; simp only [List.take_succ_cons, List.take_zero, List.drop_succ_cons, List.drop_zero]; (repeat (first | go_big_quiet_skip | (go_big_quiet_want; first | (go_big_quiet_op; first | go_big_quiet_on | ((first | with_reducible refine ⟨_, fun _ _ => rfl, ?_⟩); go_big_quiet_on)) | (simp (contextual := true) [go_sem, F0]; with_reducible refine ⟨_, fun _ _ => rfl, ?_⟩; go_big_quiet_on)))); refine wpQuiet_nil ?_
  go_wp2_with fail
  have hO0 : Own (w.alloc (.cells #[.int .u8 ((n : Int) / 256), .int .u8 ((n : Int) % 256)] 5)) w.heap.size 5 1 (some ⟨w.heap.size, 0, none⟩) 2 2 (byteVals ([n / 256, n % 256] ++ (List.range 0).map (byteAt bs))) := by
    have h := World.ownsRow_lit (base := w.heap.size) (e := 5) (size := 1) w #[.int .u8 ((n : Int) / 256), .int .u8 ((n : Int) % 256)] 2 (Nat.le_refl _) (by unfold maxLen; omega) (by simp)
    have e : (#[.int .u8 ((n : Int) / 256), .int .u8 ((n : Int) % 256)] : Array Value).toList = byteVals ([n / 256, n % 256] ++ (List.range 0).map (byteAt bs)) := by simp [byteVals]
    rw [e] at h
    exact h
  have hB0 : Below w.heap.size w (w.alloc (.cells #[.int .u8 ((n : Int) / 256), .int .u8 ((n : Int) % 256)] 5)) := (Below.refl _ _).alloc (Nat.le_refl _) _
  have HO0 := Lib.hid hO0
  have HB0 := Lib.hid hB0
  refine ⟨(hB0.drew.cell (p := ⟨g, 0, none⟩) HM.out.blk.lt).trans h0, ?_⟩
  (try simp only [Act.put, List.setIfInBounds_toArray, List.set_cons_zero, List.set_cons_succ]); refine mix_end ?_; (repeat (first | go_big_quiet_skip | (go_big_quiet_want; first | (go_big_quiet_op; first | go_big_quiet_on | ((first | with_reducible refine ⟨_, fun _ _ => rfl, ?_⟩); go_big_quiet_on)) | (simp (contextual := true) [go_sem, F0]; with_reducible refine ⟨_, fun _ _ => rfl, ?_⟩; go_big_quiet_on)))); refine wpQuiet_nil ?_
  clear F0 hO0 hB0 h0
  go_wp2_with fail
  generalize (w.alloc (.cells #[.int .u8 ((n : Int) / 256), .int .u8 ((n : Int) % 256)] 5)) = W0 at *
  go_loopw [3, 4] (fun v3 vi wr => ∃ (q : Nat) (A : Option Addr) (c : Nat), q ≤ (n + 7) / 8 ∧ vi = .int .i64 ((8 * q : Nat) : Int) ∧ v3 = .slice A (2 + q) c ∧ Own wr w.heap.size 5 1 A (2 + q) c (byteVals ([n / 256, n % 256] ++ (List.range q).map (byteAt bs))) ∧ Below w.heap.size w wr) (fun _ vi _ => n + 8 - (intOf vi).toNat)
  case atStart => exact ⟨0, _, _, by omega, rfl, rfl, HO0.out, HB0.out.drew⟩
  case round =>
    obtain ⟨q, A, c, hq, rfl, rfl, hO, hB⟩ := hrel
    have HO := Lib.hid hO
    have HB := Lib.hid hB
    have hsz : w.heap.size ≤ wr.heap.size := hB.size
    have hM := HM.out.step hB
    have m0 := hM.blk.cell 0
    have m1 := hM.blk.cell 1
    simp at m0 m1
    rw [HN.out] at m0
    clear hO hB HO0 HB0
    by_cases hlt : 8 * q < n
    · have hwl : ws.length = (n + 63) / 64 := by have := hM.ok.1; rw [HN.out] at this; exact this
      have hq2 : 8 * q / 64 < ws.length := by omega
      have hc := hM.row.cell (8 * q / 64)
      obtain ⟨hlt2, hbit⟩ := hM.ok.2 (8 * q / 64) hq2
      have hwb := word_byte (s := 8 * q % 64) (q := q) hbit (by omega) (by omega)
      have hc2 : wr.cell? ⟨gw, 8 * q / 64, none⟩ = some (.int .u64 (ws[8 * q / 64] : Nat)) := by rw [hc]; simp [wordVals, hq2]
      generalize ws[8 * q / 64] = x at *
      have HWB := Lib.hid hwb
      generalize ws.length = nw at *
      clear hc hbit hwl hwb hM
      have c1 : Hid (2 + q + 1 ≤ maxLen) := by unfold maxLen; show _ ≤ _; omega
      go_wp2_with (at_builtin; go_must (refine wpList_append_1 _ rfl (.tmp 27) (.tmp 40) 35 rfl w.heap.size 5 i0 _ 1 1 Tryd.underlying35 HI.out HZ0.out HZ1.out HZ2.out rfl (by decide) _ _ _ _ rfl (HO.out.alloc _) ⟨wr.heap.size, 0, none⟩ 1 [.int .u8 ((x : Int) / 2 ^ (8 * q % 64) % 256)] rfl rfl (onecell _ _ _) (by simp [Value.oneCell']) c1.out (by omega) (by rw [World.size_alloc]; omega) ?_); intro A' c' w5 hown1 hgrow1 hat1)
      have hv : ((x : Int) / 2 ^ (8 * q % 64) % 256) = ((byteAt bs q : Nat) : Int) := by rw [← HWB.out]; simp
      rw [hv] at hown1
      go_roundw
      case rel => exact ⟨q + 1, A', c', by omega, by go_num, by rw [Nat.add_assoc], by rw [List.range_succ, List.map_append, ← List.append_assoc, ← Nat.add_assoc]; simpa [byteVals] using hown1, below_append HB.out HO.out (Nat.le_refl _) hsz hgrow1⟩
      case measure => simp [intOf]; omega
    · have hqn : q = (n + 7) / 8 := by omega
      have HQ := Lib.hid hqn
      clear hqn
      go_wp2_with fail
      go_ret
      have e : bytesOf bs = [n / 256, n % 256] ++ (List.range q).map (byteAt bs) := by unfold bytesOf; rw [HN.out, HQ.out]
      have el : (bytesOf bs).length = 2 + q := by rw [e]; simp; omega
      rw [el]
      exact ⟨A, c, rfl, by rw [e]; exact HO.out, HB.out⟩
end Go.Proofs.YthcbceaeobnmgaaDoor

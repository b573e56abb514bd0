/-
  Chapter 33: contract of gen.Guard. Condition: the table is laid.
-/
import Derived.Test.YtlkmpafendggiaaDoorChain
namespace Go.Proofs.YtlkmpafendggiaaDoor
open Go.RowKit
def guardCode : Nat → List Ins
  | 0 => [⟨1, 0, 0, 0, 1⟩]
  | k + 1 => guardCode k ++ [ins1 17 0, ins1 15 0, ins1 18 0]
theorem guardCode_len : ∀ k, (guardCode k).length = 3 * k + 1
  | 0 => rfl
  | k + 1 => by rw [guardCode, List.length_append, guardCode_len k]; simp; omega
theorem guardCode_ok : ∀ k, ∀ x ∈ guardCode k, InsOk x
  | 0, x, hx => by simp only [guardCode, List.mem_singleton] at hx; subst hx; exact insOk_small _ (by simp)
  | k + 1, x, hx => by
    rw [guardCode, List.mem_append] at hx
    rcases hx with hx | hx
    · exact guardCode_ok k x hx
    · simp only [List.mem_cons, List.not_mem_nil, or_false] at hx
      rcases hx with rfl | rfl | rfl <;> exact insOk_small _ (by simp [ins1])
def guardP (k : Nat) : List Fn := [⟨guardCode k ++ [ins1 14 0], List.replicate (3 * k + 2) false⟩]
def guardB (n : Int) : Bool := rightB n && decide (3 * n + 2 ≤ 64)
set_option maxHeartbeats 2000000 in
set_option maxRecDepth 100000 in
theorem guard_bad (n : Int) (h : guardB n = false) (w : World) : Calls Tryd.prog 42 #[.int .i64 n] w fun e w' => NoneMade w w' e := by
  cases hr : rightB n
  · go_enter Tryd.func42, Tryd.ntmps42
    go_wp2_with (go_at_call 55; refine (right_any _ _).mono ?_; rintro e w1 ⟨rfl, rfl⟩; rw [hr])
    exact bodyPost_ret (v := .tuple #[.agg #[.slice none 0 0], .int .i64 1]) (by simp [results, Tryd.results42, go_sem]) rfl ⟨rfl, ((Below.refl _ _).alloc (Nat.le_refl _) _)⟩
  · have hn : 1 ≤ n ∧ n ≤ 61 := by simpa [rightB] using hr
    have h3 : 64 < 3 * n + 2 := by
      unfold guardB at h
      rw [hr] at h
      simpa using h
    obtain ⟨hn1, hn2⟩ := hn
    have HR := Lib.hid hr
    clear hr h
    go_enter Tryd.func42, Tryd.ntmps42
    go_wp2_with (go_at_call 55; refine (right_any _ _).mono ?_; rintro e w1 ⟨rfl, rfl⟩; rw [HR.out])
    exact bodyPost_ret (v := .tuple #[.agg #[.slice none 0 0], .int .i64 1]) (by simp [results, Tryd.results42, go_sem]) rfl ⟨rfl, ((Below.refl _ _).alloc (Nat.le_refl _) _)⟩
set_option maxHeartbeats 4000000 in
set_option maxRecDepth 100000 in
theorem guard_any (k : Nat) (h1 : 1 ≤ k) (h2 : 3 * k + 2 ≤ 64) (w : World) (hT : Tab w) : Calls Tryd.prog 42 #[.int .i64 k] w fun e w' => Made w w' e (guardP k) := by
  have hr : rightB k = true := by unfold rightB; simp; omega
  obtain ⟨i0, hi, hz0, hz1, hz2⟩ := info_parts Tryd.infoIns
  have HI := Lib.hid hi
  have HZ0 := Lib.hid hz0
  have HZ1 := Lib.hid hz1
  have HZ2 := Lib.hid hz2
  have HR := Lib.hid hr
  have HT := Lib.hid hT
  clear hr hT hi hz0 hz1 hz2
  go_enter Tryd.func42, Tryd.ntmps42
  go_wp2_with (go_at_call 55; refine (right_any _ _).mono ?_; rintro e w1 ⟨rfl, rfl⟩; rw [HR.out])
  have hB0 : Below w.heap.size w ((w.alloc (.cells #[.slice none 0 0] 32)).alloc (.cells #[.int .i64 1, .int .i64 0, .int .i64 0, .int .i64 0, .int .i64 1] 26)) := ((Below.refl _ _).alloc (Nat.le_refl _) _).alloc (by simp) _
  have hres : Blk ((w.alloc (.cells #[.slice none 0 0] 32)).alloc (.cells #[.int .i64 1, .int .i64 0, .int .i64 0, .int .i64 0, .int .i64 1] 26)) w.heap.size 32 #[.slice none 0 0] := (Blk.new _ _ _).alloc _
  have hown : Own ((w.alloc (.cells #[.slice none 0 0] 32)).alloc (.cells #[.int .i64 1, .int .i64 0, .int .i64 0, .int .i64 0, .int .i64 1] 26)) (w.heap.size + 1) 26 5 (some ⟨w.heap.size + 1, 0, none⟩) 1 1 ((guardCode 0).flatMap insVals) := by
    have h := World.ownsRow_lit (base := (w.alloc (.cells #[.slice none 0 0] 32)).heap.size) (e := 26) (size := 5) (w.alloc (.cells #[.slice none 0 0] 32)) #[.int .i64 1, .int .i64 0, .int .i64 0, .int .i64 0, .int .i64 1] 1 (Nat.le_refl _) (by unfold maxLen; omega) (by simp)
    rw [World.size_alloc] at h
    exact h
  have HB0 := Lib.hid hB0
  have HRES := Lib.hid hres
  have HOWN := Lib.hid hown
  have hw0 : w.heap.size < ((w.alloc (.cells #[.slice none 0 0] 32)).alloc (.cells #[.int .i64 1, .int .i64 0, .int .i64 0, .int .i64 0, .int .i64 1] 26)).heap.size := hres.lt
  clear hB0 hres hown
  generalize ((w.alloc (.cells #[.slice none 0 0] 32)).alloc (.cells #[.int .i64 1, .int .i64 0, .int .i64 0, .int .i64 0, .int .i64 1] 26)) = W0 at *
  go_loopw [4, 19] (fun v4 vi wr => ∃ (j : Nat) (A : Option Addr) (c : Nat), j ≤ k ∧ vi = .int .i64 j ∧ v4 = .slice A (3 * j + 1) c ∧ Own wr (w.heap.size + 1) 26 5 A (3 * j + 1) c ((guardCode j).flatMap insVals) ∧ Below (w.heap.size + 1) W0 wr) (fun _ vi _ => k - (intOf vi).toNat)
  case atStart => exact ⟨0, _, _, by omega, rfl, rfl, HOWN.out, Below.refl _ _⟩
  case round =>
    obtain ⟨j, A, c, hj, rfl, rfl, hO, hB⟩ := hrel
    have HO := Lib.hid hO
    have HB := Lib.hid hB
    have hsz : w.heap.size + 1 ≤ wr.heap.size := Nat.le_trans hw0 hB.size
    clear hO hB HOWN
    by_cases hlt : j < k
    · have c1 : Hid (3 * j + 1 + 3 ≤ maxLen) := by unfold maxLen; show _ ≤ _; omega
      go_wp2_with fail
      refine (gop_any _ _ _).mono ?_
      rintro e w1 ⟨rfl, hb1⟩
      have H1 := Lib.hid hb1
      clear hb1
      go_wp2_with fail
      refine (gop_any _ _ _).mono ?_
      rintro e w2 ⟨rfl, hb2⟩
      have H2 := Lib.hid (H1.out.trans (hb2.mono H1.out.size))
      clear hb2
      go_wp2_with fail
      refine (gop_any _ _ _).mono ?_
      rintro e w3 ⟨rfl, hb3⟩
      have H3 := Lib.hid (H2.out.trans (hb3.mono H2.out.size))
      clear hb3
      have HO3 := Lib.hid (own_below' HO.out H3.out)
      have HB3 := Lib.hid (HB.out.trans (H3.out.mono hsz))
      have hsz3 : w.heap.size + 1 ≤ w3.heap.size := Nat.le_trans hsz H3.out.size
      have HROW := Lib.hid (row_new w3 26 #[.int .i64 17, .int .i64 0, .int .i64 0, .int .i64 0, .int .i64 0, .int .i64 15, .int .i64 0, .int .i64 0, .int .i64 0, .int .i64 0, .int .i64 18, .int .i64 0, .int .i64 0, .int .i64 0, .int .i64 0])
      have H1V := Lib.hid (insVals_one [ins1 17 0, ins1 15 0, ins1 18 0])
      go_wp2_with (at_builtin; go_must (refine wpList_append_row _ rfl (.tmp 21) (.tmp 25) 38 rfl (w.heap.size + 1) 26 i0 _ 5 40 Tryd.underlying38 HI.out HZ0.out HZ1.out HZ2.out rfl (by decide) _ _ _ _ rfl (HO3.out.alloc _) _ 3 3 _ ([ins1 17 0, ins1 15 0, ins1 18 0].flatMap insVals) rfl rfl HROW.out H1V.out c1.out (by omega) (by rw [World.size_alloc]; omega) ?_); intro A' c' w5 hown1 hgrow1 hat1)
      go_roundw
      case rel => exact ⟨j + 1, A', c', by omega, by go_num, by rw [show 3 * (j + 1) + 1 = 3 * j + 1 + 3 by omega], by rw [guardCode, List.flatMap_append, show 3 * (j + 1) + 1 = 3 * j + 1 + 3 by omega]; exact hown1, below_append HB3.out HO3.out (Nat.le_refl _) hsz3 hgrow1⟩
      case measure => simp [intOf]; omega
    · have hjk : j = k := by omega
      subst hjk
      go_wp2_with fail
      have hM0 := Maker.start wr (.pointer none)
      have hBm : Below wr.heap.size wr (wr.alloc (.cells #[.pointer none, .slice none 0 0] 77)) := (Below.refl _ _).alloc (Nat.le_refl _) _
      have HM0 := Lib.hid hM0
      have HBM := Lib.hid hBm
      have hgm : wr.heap.size < (wr.alloc (.cells #[.pointer none, .slice none 0 0] 77)).heap.size := by simp
      clear hM0 hBm
      generalize (wr.alloc (.cells #[.pointer none, .slice none 0 0] 77)) = Wm at *
      refine (gop_any _ _ _).mono ?_
      rintro e w1 ⟨rfl, hb1⟩
      have H1 := Lib.hid hb1
      clear hb1
      have hL1 : Below wr.heap.size wr w1 := HBM.out.trans (H1.out.mono HBM.out.size)
      have HL1 := Lib.hid hL1
      have HO1 := Lib.hid (own_below' HO.out hL1)
      have HROW := Lib.hid (row_new w1 26 #[.int .i64 14, .int .i64 0, .int .i64 0, .int .i64 0, .int .i64 0])
      have H1V := Lib.hid (insVals_one [ins1 14 0])
      have c1 : Hid (3 * j + 1 + 1 ≤ maxLen) := by unfold maxLen; show _ ≤ _; omega
      have hsz1 : w.heap.size + 1 ≤ w1.heap.size := Nat.le_trans hsz hL1.size
      have hgw : wr.heap.size < w1.heap.size := Nat.lt_of_lt_of_le hgm H1.out.size
      clear hL1
      go_wp2_with (at_builtin; go_must (refine wpList_append_row _ rfl (.tmp 31) (.tmp 33) 38 rfl (w.heap.size + 1) 26 i0 _ 5 40 Tryd.underlying38 HI.out HZ0.out HZ1.out HZ2.out rfl (by decide) _ _ _ _ rfl (HO1.out.alloc _) _ 1 1 _ ([ins1 14 0].flatMap insVals) rfl rfl HROW.out H1V.out c1.out (by omega) (by rw [World.size_alloc]; omega) ?_); intro A' c' w5 hown1 hgrow1 hat1)
      have hgn : ob A ≠ some wr.heap.size := fun e => by have := (HO.out.lt _ e).2; omega
      have hA' : ob A' ≠ some wr.heap.size := fun e => by
        rcases hat1 with q | q
        · exact hgn (q ▸ e)
        · rw [q, World.size_alloc] at e; injection e with e; omega
      have hM5 : Maker w5 wr.heap.size (.pointer none) none 0 [] [] := ⟨((HM0.out.blk.below H1.out HM0.out.blk.lt).alloc _).grown hgrow1 (fun e => hgn e.symm), Own.nil _ _ _ _, FnsAt.nil _ _⟩
      have HM5 := Lib.hid hM5
      have hB5 : Below (w.heap.size + 1) W0 w5 := below_append (HB.out.trans (HL1.out.mono hsz)) HO1.out (Nat.le_refl _) hsz1 hgrow1
      have HB5 := Lib.hid hB5
      have hown5 : Own w5 (w.heap.size + 1) 26 5 A' (3 * j + 1 + 1) c' ((guardCode j ++ [ins1 14 0]).flatMap insVals) := by rw [List.flatMap_append]; exact hown1
      have HO5 := Lib.hid hown5
      have HA' := Lib.hid hA'
      clear hM5 hB5 hown5 hown1 hgrow1 hat1 hgn hA'
      refine (put_any _ _ _ _ _ [] _ _ _ _ HM5.out.blk HM5.out.own (by simp) (by omega)).mono ?_
      rintro e w9 ⟨rfl, hp9⟩
      obtain ⟨G9, cG9, hM9⟩ := HM5.out.put (codes := guardCode j ++ [ins1 14 0]) (by
        have h := HO5.out.rowN
        rcases h with h | ⟨b, o, e, hb, hc⟩
        · exact .inl h
        · exact .inr ⟨b, o, e, ⟨hb, fun e2 => HA'.out (by rw [e, e2]; rfl), by simp [ob]⟩, hc⟩) (by simp [guardCode_len]) (by omega) (by
        intro x hx
        rw [List.mem_append] at hx
        rcases hx with hx | hx
        · exact guardCode_ok j x hx
        · simp only [List.mem_singleton] at hx
          subst hx
          exact insOk_small _ (by simp [ins1])) hp9
      have q5 : Below wr.heap.size w5 w9 := by obtain ⟨_, _, _, _, _, _, q, _⟩ := hp9; exact q
      have hg9 := hM9.blk.cell 1
      simp at hg9
      have HM9 := Lib.hid hM9
      have HQ5 := Lib.hid q5
      clear hp9 hM9 q5
      go_wp2_with fail
      have hB9 : Below (w.heap.size + 1) W0 w9 := HB5.out.trans (HQ5.out.mono hsz)
      have hBw : Below w.heap.size w w9 := HB0.out.trans (hB9.mono (by omega))
      have hr9 : Blk w9 w.heap.size 32 #[.slice none 0 0] := HRES.out.below hB9 (by omega)
      have HB9 := Lib.hid hBw
      have HR9 := Lib.hid hr9
      clear hB9 hBw hr9 hg9
      generalize w9 = W9 at *
      refine (mend_own _ _ (guardP j) W9 (HT.out.step HB9.out) (by simp [guardP]) (by
        intro f hf
        simp only [guardP, List.mem_singleton] at hf
        subst hf
        simp [guardCode_len]; omega) (HM9.out.fns.ok (fun b hb => hb.1) HM9.out.own.rowN)).mono ?_
      rintro e w10 ⟨A10, c10, rfl, hf10, hb10⟩
      have HF10 := Lib.hid hf10
      have hr10 := HR9.out.below hb10 HR9.out.lt
      have q0 := hr10.cell 0
      have q1 := hr10.frozen 0
      have q2 := hr10.lt
      simp at q0
      have HB10 := Lib.hid (HB9.out.trans (hb10.mono HB9.out.size))
      have hlt9 : w.heap.size < W9.heap.size := HR9.out.lt
      clear hf10 hb10 hr10
      go_wp2_with fail
      exact bodyPost_ret (v := .tuple #[.agg #[.slice A10 (guardP j).length c10], .int .i64 0]) (by simp [results, Tryd.results42, go_sem, q0]) rfl ⟨A10, c10, rfl, (HF10.out.far (p := ⟨w.heap.size, 0, none⟩) hlt9 _).ok, HB10.out.setCell (Nat.le_refl _) _⟩
end Go.Proofs.YtlkmpafendggiaaDoor

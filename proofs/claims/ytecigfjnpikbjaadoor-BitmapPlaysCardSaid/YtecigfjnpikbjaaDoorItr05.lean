/-
  Chapter 5: the map's iterator: for every loop body that keeps what it must, all marked places come, in their order. Conditions: the map lies in memory; the library's table.
-/
import Derived.Test.YtecigfjnpikbjaaDoorAll05
import Derived.Test.YtecigfjnpikbjaaDoorPos05
namespace Go.Proofs.YtecigfjnpikbjaaDoor
open Go.RowKit Go.Shelf
attribute [local go_sem] Oper.semAt_some
theorem and_pred (x : Nat) (hx : x < 18446744073709551616) (h0 : x ≠ 0) : bits .and .u64 (x : Int) ((x : Int) - 1) = ((x &&& (x - 1) : Nat) : Int) := by
  have e : (x : Int) - 1 = ((x - 1 : Nat) : Int) := by omega
  rw [e, bits_and_u64_nat x (x - 1) hx (by omega)]
theorem copy_shape {w1 : World} {base : Nat} {v' : Value} {ws : List Nat} (h : w1.ownsRow base 55 1 v' (0 + ws.length) ([] ++ wordVals ws)) (hn : v' ≠ .slice none 0 0) :
    ∃ g' cap cur, v' = .slice (some ⟨g', 0, none⟩) ws.length cap ∧ w1.heap[g']? = some (.cells cur 55 (0, 0)) ∧ ws.length ≤ cap ∧ cap ≤ maxLen ∧ ∀ (k : Nat) (hk : k < ws.length), cur[k]? = some (.int .u64 (ws[k] : Nat)) := by
  rcases h.2 with ⟨hv, _⟩ | ⟨g, cap, cur, hv, _, hg, hnc, hcm, _, htk⟩
  · exact absurd hv hn
  · refine ⟨g, cap, cur, by rw [hv, Nat.zero_add], hg, by omega, hcm, fun k hk => ?_⟩
    have h1 : (cur.toList.take ((0 + ws.length) * 1))[k]? = (wordVals ws)[k]? := by rw [htk, List.nil_append]
    rw [List.getElem?_take_of_lt (by omega), Array.getElem?_toList] at h1
    rw [h1]
    simp [wordVals, hk]
theorem grown_made {W w1 : World} {o : Obj} (h : (W.alloc o).grownBy w1 (some W.heap.size)) : W.grownBy w1 none :=
  ⟨h.os, h.tape, h.output, by have := h.size; rw [World.size_alloc] at this; omega, fun k hk _ => (h.block k (by rw [World.size_alloc]; omega) (by intro e; injection e with e; omega)).trans (Below.heap_alloc W o k hk)⟩
set_option maxRecDepth 100000 in
set_option maxHeartbeats 4000000 in
theorem iter_map (w0 : World) (hT : Tab w0) (g gw Bn : Nat) (ws : List Nat) (bs : List Bool) (w : World) (hb : Below w0.heap.size w0 w) (hBn : Bn < w.heap.size) (hc : w.cell? ⟨Bn, 0, none⟩ = some (.pointer (some ⟨g, 0, none⟩))) (M : Bm w g gw ws bs) :
    SeqStopsK Fence.wide 4 Tryd.prog 29 #[.pointer (some ⟨Bn, 0, none⟩)] (fun x : Int => #[Value.int .i64 x]) (Kp5 w0.heap.size) (fun ys => ys = posUpto ws ws.length) (fun pre => pre <+: posUpto ws ws.length) (posUpto ws ws.length).length w := by
  intro l J Jx W hW hJ _ hY h0
  have hc' := (hW.cell (p := ⟨Bn, 0, none⟩) hBn).trans hc
  have M' := M.step hW
  have hbW := hb.trans (hW.mono hb.size)
  have hk1 := M'.blk.cell 1
  simp at hk1
  have hwl : ws.length ≤ 64 := by have := M'.ok.1; have := M'.small; omega
  have hBlt : Bn < W.heap.size := by have := hW.size; omega
  have hglt : g < W.heap.size := M'.blk.lt
  obtain ⟨i0, hi, hz0, hz1, hz2⟩ := info_parts Tryd.infoU64
  have hrow : ∀ j u, (wordVals ws)[j]? = some u → (W.alloc (.cells #[] 55)).cell? ((⟨gw, 0, none⟩ : Addr).add j) = some u := by
    intro j u hu
    have := (M'.row.alloc (.cells #[] 55)).cell j
    rw [Go.WideShapes.add_plain]
    simp only [Nat.zero_add]
    rw [this]
    simpa using hu
  have hlw : (wordVals ws).length = ws.length * 1 := by simp [wordVals]
  have h1c : ∀ u ∈ wordVals ws, u.oneCell' = true := by
    intro u hu
    unfold wordVals at hu
    rw [List.mem_map] at hu
    obtain ⟨y, _, rfl⟩ := hu
    rfl
  refine callsIn_of_wp Tryd.func29 rfl trivial ?_ rfl
  simp only [Tryd.ntmps29, List.size_toArray, List.length_cons, List.length_nil, Nat.reduceAdd, Nat.reduceSub, Array.replicate_succ, Array.replicate_zero, List.push_toArray, List.append_toArray, List.nil_append, List.cons_append]
  gi_wp2_with (gi_at_builtin; refine wpListIn_append_own _ rfl _ _ 52 rfl W.heap.size 55 i0 (.int .u64 0) 1 8 Tryd.underlying52 hi hz0 hz1 hz2 rfl (by decide) _ 0 [] rfl (World.ownsRow_made W #[] 0 (Nat.le_refl _) (Nat.zero_le _) (by simp)) ⟨gw, 0, none⟩ ws.length ws.length (wordVals ws) rfl hlw hrow h1c (by unfold maxLen; omega) (by omega) (by simp) ?_; intro v' w1 hown' hgrow hnil; obtain ⟨g', cap', cur, rfl, hgb, hnc, hcm, hcur⟩ := copy_shape hown' (fun e => by have := (hnil.1 e).1; cases this))
  have hg1 : W.grownBy w1 none := grown_made hgrow
  have hJ1 : J [] w1 := hJ [] W w1 none h0 hg1 (fun r e => by cases e)
  have hb1 : Below w0.heap.size w0 w1 := hbW.grown hg1 hbW.size (fun k e => by cases e)
  have HMK := Lib.hid M'.ok
  unfold maxLen at hcm
  clear hgrow hnil hown' hrow h1c hlw hi hz0 hz1 hz2 hk1 hc' hc h0 hW M M' hg1
  gi_loopw [14] (fun i wr => ∃ k : Nat, k ≤ ws.length ∧ i = .int .i64 k ∧ J (posUpto ws k) wr ∧ Kp5 w0.heap.size w1 wr) (fun i _ => ws.length - (intOf i).toNat)
  case atStart => exact ⟨0, Nat.zero_le _, rfl, hJ1, Kp5.refl _ _⟩
  case round =>
    obtain ⟨k, hk, rfl, hJk, hKk⟩ := hrel
    by_cases hlt : k < ws.length
    · have hgr := hKk.2 g' cur (0, 0) hgb
      have hcx : wr.cell? ⟨g', k, none⟩ = some (.int .u64 (ws[k] : Nat)) := (cell_of_row wr g' k cur 55 (0, 0) hgr).trans (hcur k hlt)
      have hx0 : ws[k] < 18446744073709551616 := (HMK.out.2 k hlt).1
      have hsucc := posUpto_succ ws k
      have hgd : ws.getD k 0 = ws[k] := by simp [hlt]
      rw [hgd] at hsucc
      have HSU := Lib.hid hsucc
      generalize ws[k] = x0 at *
      clear hsucc hgd
      gi_wp2
      clear hcx hgr
      gi_loopw [4] (fun v wr2 => ∃ (x : Nat) (pre : List Int), v = .int .u64 x ∧ x < 18446744073709551616 ∧ J pre wr2 ∧ Kp5 w0.heap.size w1 wr2 ∧ Hid (pre ++ ((bitsOf x).map fun b : Nat => (k : Int) * 64 + (b : Int)) = posUpto ws (k + 1))) (fun v _ => (intOf v).toNat)
      case atStart => exact ⟨x0, _, rfl, hx0, hJk, hKk, HSU.out.symm⟩
      case round =>
        obtain ⟨x, pre, rfl, hx, hJp, hKp, hpre⟩ := hrel
        by_cases hz : x = 0
        · subst hz
          gi_wp2
          have hp := hpre.out
          rw [show bitsOf 0 = [] by decide +kernel, List.map_nil, List.append_nil] at hp
          exact ⟨⟨k + 1, by omega, by simp, by rw [← hp]; exact hJp, hKp⟩, by simp [intOf]; omega⟩
        · obtain ⟨hc64, hbo⟩ := low_bit x hx hz
          have hlow := hpre.out
          rw [hbo, List.map_cons] at hlow
          have hpl : pre.length < (posUpto ws ws.length).length := by
            have h1 := (posUpto_pre ws (show k + 1 ≤ ws.length by omega)).length_le
            rw [← hlow] at h1
            simp at h1
            omega
          have htz := tz_any x hx hz wr (hT.step (hb1.trans hKp.1))
          have hand := and_pred x hx hz
          have hzd : ((x : Int) == 0) = false := by simpa using hz
          generalize Lib.ctz 64 x = c at *
          obtain ⟨fn, tmps, assign, body, hy, hR⟩ := hY pre ((k : Int) * 64 + (c : Int)) wr hJp hpl
          gi_wp2_with (refine ⟨trivial, ?_⟩; gi_at_call 28; refine (callsIn_wide.2 htz).mono ?_; rintro e w' ⟨rfl, rfl⟩)
          refine hR.mono ?_
          rintro e W3 (⟨rfl, hJ3, hk3⟩ | ⟨rfl, hJx3⟩)
          · gi_wp2
            exact ⟨⟨x &&& (x - 1), _, rfl, Nat.lt_trans (and_pred_lt x hz) hx, hJ3, hKp.trans hk3, by rw [List.append_assoc]; exact hlow⟩, by simp only [intOf, Int.toNat_natCast]; exact and_pred_lt x hz⟩
          · gi_wp2
            refine bodyPost_ret (results_none rfl _ _ _) rfl ?_
            refine ⟨⟨_, rfl⟩, .inr ⟨_, ?_, hJx3⟩⟩
            refine List.IsPrefix.trans ?_ (posUpto_pre ws (show k + 1 ≤ ws.length by omega))
            rw [← hlow]
            exact ⟨_, by rw [List.append_assoc]; rfl⟩
    · obtain rfl : k = ws.length := by omega
      gi_wp2
      go_end0
      exact ⟨⟨_, rfl⟩, .inl ⟨_, rfl, hJk⟩⟩
theorem bitsOf_len (x : Nat) : (bitsOf x).length ≤ 64 := by
  have := List.length_filter_le (fun b => x.testBit b) (List.range 64)
  simpa [bitsOf] using this
theorem posUpto_len (ws : List Nat) : ∀ k, (posUpto ws k).length ≤ 64 * k
  | 0 => by simp [posUpto]
  | k + 1 => by
    rw [posUpto_succ, List.length_append, List.length_map]
    have := posUpto_len ws k
    have := bitsOf_len (ws.getD k 0)
    omega
/-- all of a map: the places that are marked. -/
theorem all_map {w : World} {g gw : Nat} {ws : List Nat} {bs : List Bool} (M : Bm w g gw ws bs) (hT : Tab w) : Calls Tryd.prog 20 #[.pointer (some ⟨g, 0, none⟩)] w fun e w' => ∃ A c, e = .returned (.slice A (allB bs bs.length).length c) ∧ Own w' w.heap.size 3 1 A (allB bs bs.length).length c (ints (allB bs bs.length)) ∧ Below w.heap.size w w' := by
  rw [← pos_all M.ok]
  have hle : (posUpto ws ws.length).length ≤ 100000 := by
    have := posUpto_len ws ws.length
    have := M.ok.1
    have := M.small
    omega
  refine (all_core (some ⟨g, 0, none⟩) (posUpto ws ws.length) hle w fun W h1 h2 h3 => iter_map w hT g gw _ ws bs W h1 h2 h3 (M.step h1)).mono ?_
  rintro e w' ⟨v, rfl, hrow, hb⟩
  have hex : ∃ A c, v = .slice A (posUpto ws ws.length).length c := by
    rcases hrow.2 with ⟨rfl, h0⟩ | ⟨g, cap, cur, rfl, _⟩
    · exact ⟨none, 0, by rw [h0]⟩
    · exact ⟨_, _, rfl⟩
  obtain ⟨A, c, rfl⟩ := hex
  exact ⟨A, c, rfl, hrow, hb⟩
end Go.Proofs.YtecigfjnpikbjaaDoor

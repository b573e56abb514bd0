/-
  Contract of the reference's one. Condition: the function lies in memory.
-/
import Derived.Test.YtfgaonkoaolffaaDoorFn9
namespace Go.Proofs.YtfgaonkoaolffaaDoor
open Go.RowKit
set_option maxHeartbeats 4000000 in
theorem one_any (a : FnA) (f : Fn) (funcs : Int) (w : World) (hf : FnOk w w.heap.size a f) :
    Calls Tryd.prog 16 #[.agg #[.slice a.C a.n a.c, .slice a.S a.m a.d], .int .i64 funcs] w fun e w' => e = .returned (.tuple #[.int .i64 (fnF f funcs).1, .int .i64 (fnF f funcs).2]) ∧ Below w.heap.size w w' := by
  have hn := hf.1
  have hm := hf.2.1
  have hmax := hf.2.2.2.2.1
  have hmm := hf.2.2.2.2.2.1
  have HF := Lib.hid hf
  obtain ⟨C, n, c, S, m, d⟩ := a
  simp only at hn hm hmax hmm ⊢
  have HMM := Lib.hid hmm
  have HM := Lib.hid hm
  unfold maxLen at hmax hmm
  have hB : Below w.heap.size w (w.alloc (.cells #[.slice C n c, .slice S m d] 39)) := (Below.refl _ _).alloc (Nat.le_refl _) _
  clear hf
  by_cases h0 : n = 0
  · have e : fnF f funcs = (-1, 6) := by unfold fnF; rw [if_pos (by omega)]
    rw [e]; clear e
    clear hn hm
    subst h0
    go_enter Tryd.func16, Tryd.ntmps16
    go_wp2_with fail
    go_ret2
    exact ⟨rfl, hB⟩
  have h0' : ((n : Int) == 0) = false := by simpa using h0
  by_cases h64 : 64 < n
  · have e : fnF f funcs = (-1, 5) := by unfold fnF; rw [if_neg (by omega), if_pos (by omega)]
    rw [e]; clear e
    have h64' : decide ((64 : Int) < n) = true := by simp; omega
    clear h0 hn hm
    go_enter Tryd.func16, Tryd.ntmps16
    go_wp2_with fail
    go_ret2
    exact ⟨rfl, hB⟩
  have h64' : decide ((64 : Int) < n) = false := by simp; omega
  by_cases hs : m = n
  · have HE0 := Lib.hid (show f.code.length ≠ 0 by omega)
    have HE1 := Lib.hid (show ¬ 64 < f.code.length by omega)
    have HE2 := Lib.hid (show f.code.length = f.safe.length by omega)
    have hs' : ((m : Int) != n) = false := by simp [hs]
    have HN := Lib.hid hn
    have hpos : 0 < n := by omega
    clear h0 h64 hs hn hm
    have HB := Lib.hid hB
    clear hB
    go_enter Tryd.func16, Tryd.ntmps16
    go_wp2_with fail
    have HF2 := Lib.hid (HF.out.step HB.out)
    have hp0 : (w.alloc (.cells #[.slice C n c, .slice S m d] 39)).cell? ⟨w.heap.size, 0, none⟩ = some (.slice C n c) := (Blk.new w 39 _).cell 0
    have hp1 : (w.alloc (.cells #[.slice C n c, .slice S m d] 39)).cell? ⟨w.heap.size, 1, none⟩ = some (.slice S m d) := (Blk.new w 39 _).cell 1
    have hz : (w.alloc (.cells #[.slice C n c, .slice S m d] 39)).heap.size = w.heap.size + 1 := by simp
    clear HF
    have keep : ∀ w', Below (w.alloc (.cells #[.slice C n c, .slice S m d] 39)).heap.size (w.alloc (.cells #[.slice C n c, .slice S m d] 39)) w' → w'.cell? ⟨w.heap.size, 0, none⟩ = some (.slice C n c) ∧ w'.cell? ⟨w.heap.size, 1, none⟩ = some (.slice S m d) :=
      fun w' h => ⟨(h.cell (p := ⟨w.heap.size, 0, none⟩) (by show w.heap.size < _; omega)).trans hp0, (h.cell (p := ⟨w.heap.size, 1, none⟩) (by show w.heap.size < _; omega)).trans hp1⟩
    have HK := Lib.hid keep
    clear keep hp0 hp1 hz
    generalize (w.alloc (.cells #[.slice C n c, .slice S m d] 39)) = W at *
    go_loopw [6] (fun vi wr => ∃ k : Nat, k ≤ n ∧ vi = .int .i64 k ∧ (∀ i, i < k → placeAt f funcs i = 0) ∧ Below W.heap.size W wr) (fun vi _ => n - (intOf vi).toNat)
    case atStart => exact ⟨0, by omega, rfl, fun i hi => by omega, Below.refl _ _⟩
    case round =>
      obtain ⟨k, hk, rfl, hno, hb⟩ := hrel
      have HNO := Lib.hid hno
      have HBW := Lib.hid hb
      obtain ⟨p0, p1⟩ := HK.out _ hb
      clear hno hb
      by_cases hlt : k < n
      · have hkc : k < f.code.length := by rw [← HN.out]; exact hlt
        obtain ⟨b, off, eC, hbb, c0, c1, c2, c3, c4⟩ := HF2.out.ins5 k hkc
        simp only at eC
        subst eC
        have hpa : placeAt f funcs k = placeF f.code[k] n f.safe k funcs := by rw [placeAt, code_getD hkc, HN.out]
        have HPA := Lib.hid hpa
        clear hpa
        generalize f.code[k] = i at *
        obtain ⟨op, a1, a2, a3, n1⟩ := i
        simp only at c0 c1 c2 c3 c4
        have keep5 : ∀ w', Below W.heap.size W w' → w'.cell? ⟨b, off + k * 5, none⟩ = some (.int .i64 op) ∧ w'.cell? ⟨b, off + k * 5 + 1, none⟩ = some (.int .i64 a1) ∧ w'.cell? ⟨b, off + k * 5 + 2, none⟩ = some (.int .i64 a2) ∧ w'.cell? ⟨b, off + k * 5 + 3, none⟩ = some (.int .i64 a3) ∧ w'.cell? ⟨b, off + k * 5 + 4, none⟩ = some (.int .i64 n1) :=
          fun w' h => ⟨(h.cell (p := ⟨b, _, none⟩) hbb).trans c0, (h.cell (p := ⟨b, _, none⟩) hbb).trans c1, (h.cell (p := ⟨b, _, none⟩) hbb).trans c2, (h.cell (p := ⟨b, _, none⟩) hbb).trans c3, (h.cell (p := ⟨b, _, none⟩) hbb).trans c4⟩
        have HK5 := Lib.hid keep5
        clear keep5 c0 c1 c2 c3 c4
        go_wp2_with fail
        have s0 : ∀ w', Below W.heap.size W w' → w'.cell? ⟨w.heap.size, 0, none⟩ = some (.slice (some ⟨b, off, none⟩) n c) := fun w' h => (HK.out w' h).1
        have t0 : ∀ w', Below W.heap.size W w' → w'.cell? ⟨b, off + k * 5, none⟩ = some (.int .i64 op) := fun w' h => (HK5.out w' h).1
        have t1 : ∀ w', Below W.heap.size W w' → w'.cell? ⟨b, off + k * 5 + 1, none⟩ = some (.int .i64 a1) := fun w' h => (HK5.out w' h).2.1
        have t2 : ∀ w', Below W.heap.size W w' → w'.cell? ⟨b, off + k * 5 + 2, none⟩ = some (.int .i64 a2) := fun w' h => (HK5.out w' h).2.2.1
        have t3 : ∀ w', Below W.heap.size W w' → w'.cell? ⟨b, off + k * 5 + 3, none⟩ = some (.int .i64 a3) := fun w' h => (HK5.out w' h).2.2.2.1
        have t4 : ∀ w', Below W.heap.size W w' → w'.cell? ⟨b, off + k * 5 + 4, none⟩ = some (.int .i64 n1) := fun w' h => (HK5.out w' h).2.2.2.2
        refine region_below W W.heap.size (by kernel_rfl) (by kernel_rfl) HBW.out ?_
        repeat (first | go_big_quiet_skip | (go_big_quiet_want; first | (go_big_quiet_op; first | go_big_quiet_on | ((first | with_reducible refine ⟨_, fun _ _ => rfl, ?_⟩ | with_reducible refine ⟨_, fun w' hw' => calm_of hw' (Nat.le_refl _) (rcheck_any _ _ _ _ _ _ _ _), ?_⟩); go_big_quiet_on)) | (simp (contextual := true) [go_sem, s0, t0, t1, t2, t3, t4]; with_reducible refine ⟨_, fun _ _ => rfl, ?_⟩; go_big_quiet_on)))
        refine wpQuiet_nil ?_
        intro w1 hw1
        have HB1 := Lib.hid hw1
        clear hw1 s0 t0 t1 t2 t3 t4 p0 p1
        by_cases hx : checkF op a1 a2 a3 n1 n funcs = 0
        · have e : placeF ⟨op, a1, a2, a3, n1⟩ n f.safe k funcs = if opWaits op && !(safeB f.safe k && safeB f.safe (k + 1)) then 10 else 0 := by simp [placeF, hx]
          have E := Lib.hid (HPA.out.trans e)
          rw [hx]
          clear e hx HPA
          obtain ⟨p0, p1⟩ := HK.out _ HB1.out
          obtain ⟨c0, -⟩ := HK5.out _ HB1.out
          go_wp2_with fail
          refine (rwaits_any _ _).mono ?_
          rintro e w2 ⟨rfl, rfl⟩
          have HS2 := Lib.hid (HF2.out.step HB1.out).2.2.2.1
          cases hw : opWaits op
          · have e := E.out
            rw [hw] at e
            have E' := Lib.hid e
            clear e E
            go_wp2_with fail
            go_roundw
            case rel => exact ⟨k + 1, by omega, by go_num, all_succ HNO.out E'.out, HB1.out⟩
            case measure => simp [intOf]; omega
          · go_wp2_with fail
            refine (safe_any _ (.inr rfl) _ _ _ _ _ _ f.safe _ _ HM.out.symm HMM.out HS2.out).mono ?_
            rintro e w3 ⟨rfl, hb3⟩
            have H3 := Lib.hid (HB1.out.trans (hb3.mono HB1.out.size))
            clear hb3 p0 p1 c0
            obtain ⟨p0, p1⟩ := HK.out _ H3.out
            have HS3 := Lib.hid (HF2.out.step H3.out).2.2.2.1
            cases hs : safeB f.safe k
            · have e := E.out
              rw [hw, hs] at e
              have e2 := fnF_bad HE0.out HE1.out HE2.out hkc HNO.out (by rw [e]; simp)
              rw [e] at e2
              have E' := Lib.hid e2
              clear e e2 E
              go_wp2_with fail
              go_ret2
              exact ⟨by rw [E'.out]; rfl, HB.out.trans (H3.out.mono HB.out.size)⟩
            · go_wp2_with fail
              refine (safe_any _ (.inr rfl) _ _ _ _ _ _ f.safe _ _ HM.out.symm HMM.out HS3.out).mono ?_
              rintro e w4 ⟨rfl, hb4⟩
              have H4 := Lib.hid (H3.out.trans (hb4.mono H3.out.size))
              clear hb4 p0 p1
              cases hs1 : safeB f.safe (k + 1)
              · have e := E.out
                rw [hw, hs, hs1] at e
                have e2 := fnF_bad HE0.out HE1.out HE2.out hkc HNO.out (by rw [e]; simp)
                rw [e] at e2
                have E' := Lib.hid e2
                clear e e2 E
                go_wp2_with fail
                go_ret2
                exact ⟨by rw [E'.out]; rfl, HB.out.trans (H4.out.mono HB.out.size)⟩
              · have e := E.out
                rw [hw, hs, hs1] at e
                have E' := Lib.hid e
                clear e E
                go_wp2_with fail
                go_roundw
                case rel => exact ⟨k + 1, by omega, by go_num, all_succ HNO.out E'.out, H4.out⟩
                case measure => simp [intOf]; omega
        · have e : placeF ⟨op, a1, a2, a3, n1⟩ n f.safe k funcs = checkF op a1 a2 a3 n1 n funcs := by simp [placeF, hx]
          have hpk := HPA.out.trans e
          have e2 := fnF_bad HE0.out HE1.out HE2.out hkc HNO.out (by rw [hpk]; exact hx)
          rw [hpk] at e2
          have E := Lib.hid e2
          have hx' : (checkF op a1 a2 a3 n1 n funcs != 0) = true := by simpa using hx
          clear e e2 hpk hx HPA
          go_wp2_with fail
          go_ret2
          exact ⟨by rw [E.out]; rfl, HB.out.trans (HB1.out.mono HB.out.size)⟩
      · have hkn : k = n := by omega
        subst hkn
        have e := fnF_none HE0.out HE1.out HE2.out (by rw [← HN.out]; exact HNO.out)
        have E := Lib.hid e
        clear e
        have hl : k - 1 < f.code.length := by have := HN.out; omega
        obtain ⟨b, off, eC, hb, c0, -⟩ := (HF2.out.below HBW.out).ins5 (k - 1) hl
        simp only at eC
        subst eC
        have he : (f.code.getD (f.code.length - 1) noIns).op = f.code[k - 1].op := by
          rw [← HN.out, code_getD hl]
        rw [he] at E
        generalize f.code[k - 1].op = op at *
        clear he hl
        go_wp2_with fail
        refine (rends_any _ _).mono ?_
        rintro e w1 ⟨rfl, rfl⟩
        have e2 := E.out
        rw [← HN.out] at e2
        clear E
        cases ho : opEnds op
        · rw [ho, if_neg Bool.false_ne_true] at e2
          have E2 := Lib.hid e2
          clear e2
          go_wp2_with fail
          go_ret2
          exact ⟨by rw [E2.out]; rfl, HB.out.trans (HBW.out.mono HB.out.size)⟩
        · rw [ho, if_pos rfl] at e2
          have E2 := Lib.hid e2
          clear e2
          go_wp2_with fail
          go_ret2
          exact ⟨by rw [E2.out]; rfl, HB.out.trans (HBW.out.mono HB.out.size)⟩
  · have e : fnF f funcs = (-1, 9) := by unfold fnF; rw [if_neg (by omega), if_neg (by omega), if_pos (by omega)]
    rw [e]; clear e
    have hs' : ((m : Int) != n) = true := by simp; omega
    clear h0 h64 hs hn hm
    go_enter Tryd.func16, Tryd.ntmps16
    go_wp2_with fail
    go_ret2
    exact ⟨rfl, hB⟩
end Go.Proofs.YtfgaonkoaolffaaDoor

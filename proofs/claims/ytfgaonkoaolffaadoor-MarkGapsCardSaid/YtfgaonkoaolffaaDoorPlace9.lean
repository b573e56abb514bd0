/-
  Contract of valid.place. Conditions: the table is laid, the function lies in memory, the place is one of its.
-/
import Derived.Test.YtfgaonkoaolffaaDoorSafe9
namespace Go.Proofs.YtfgaonkoaolffaaDoor
open Go.RowKit
set_option maxHeartbeats 2000000 in
theorem place_any (a : FnA) (f : Fn) (k : Nat) (hk : k < f.code.length) (funcs : Int) (w : World) (hT : Tab w) (hf : FnOk w w.heap.size a f) :
    Calls Tryd.prog 42 #[.agg #[.slice a.C a.n a.c, .slice a.S a.m a.d], .int .i64 k, .int .i64 funcs] w fun e w' => e = .returned (.int .i64 (placeF f.code[k] f.code.length f.safe k funcs)) ∧ Below w.heap.size w w' := by
  obtain ⟨b, off, eC, hb, c0, c1, c2, c3, c4⟩ := hf.ins5 k hk
  have hn := hf.1
  have hmax := hf.2.2.2.2.1
  have hm := hf.2.1
  have hmm := hf.2.2.2.2.2.1
  have hsafe := hf.2.2.2.1
  obtain ⟨C, n, c, S, m, d⟩ := a
  obtain ⟨code, ss⟩ := f
  simp only at eC hn hmax hk hm hmm hsafe c0 c1 c2 c3 c4 ⊢
  subst eC
  have HT := Lib.hid hT
  generalize code[k] = i at *
  obtain ⟨op, a1, a2, a3, n1⟩ := i
  have hlt : k < n := by omega
  have HN := Lib.hid hn
  have HM := Lib.hid hm
  have HMM := Lib.hid hmm
  have HS := Lib.hid hsafe
  rw [← hn]
  clear hf hT hn hm hmm hsafe
  unfold maxLen at hmax
  have hB : Below w.heap.size w (w.alloc (.cells #[.slice (some ⟨b, off, none⟩) n c, .slice S m d] 39)) := (Below.refl _ _).alloc (Nat.le_refl _) _
  go_enter Tryd.func42, Tryd.ntmps42
  go_wp2_with fail
  have hB2 : Below w.heap.size w ((w.alloc (.cells #[.slice (some ⟨b, off, none⟩) n c, .slice S m d] 39)).alloc (.cells #[.int .i64 op, .int .i64 a1, .int .i64 a2, .int .i64 a3, .int .i64 n1] 43)) := hB.alloc hB.size _
  have p0 : ((w.alloc (.cells #[.slice (some ⟨b, off, none⟩) n c, .slice S m d] 39)).alloc (.cells #[.int .i64 op, .int .i64 a1, .int .i64 a2, .int .i64 a3, .int .i64 n1] 43)).cell? ⟨w.heap.size, 0, none⟩ = some (.slice (some ⟨b, off, none⟩) n c) := ((Blk.new w 39 _).alloc _).cell 0
  have p1 : ((w.alloc (.cells #[.slice (some ⟨b, off, none⟩) n c, .slice S m d] 39)).alloc (.cells #[.int .i64 op, .int .i64 a1, .int .i64 a2, .int .i64 a3, .int .i64 n1] 43)).cell? ⟨w.heap.size, 1, none⟩ = some (.slice S m d) := ((Blk.new w 39 _).alloc _).cell 1
  have q0 : ((w.alloc (.cells #[.slice (some ⟨b, off, none⟩) n c, .slice S m d] 39)).alloc (.cells #[.int .i64 op, .int .i64 a1, .int .i64 a2, .int .i64 a3, .int .i64 n1] 43)).cell? ⟨w.heap.size + 1, 0, none⟩ = some (.int .i64 op) := by
    have := (Blk.new (w.alloc (.cells #[.slice (some ⟨b, off, none⟩) n c, .slice S m d] 39)) 43 #[.int .i64 op, .int .i64 a1, .int .i64 a2, .int .i64 a3, .int .i64 n1]).cell 0
    simp at this ⊢
  have hz : ((w.alloc (.cells #[.slice (some ⟨b, off, none⟩) n c, .slice S m d] 39)).alloc (.cells #[.int .i64 op, .int .i64 a1, .int .i64 a2, .int .i64 a3, .int .i64 n1] 43)).heap.size = w.heap.size + 2 := by simp
  have HT2 := Lib.hid (HT.out.step hB2)
  have HS2 := Lib.hid ((HS.out.below hB2).more hB2.size)
  clear HT HS hB c0 c1 c2 c3 c4
  generalize (w.alloc (.cells #[.slice (some ⟨b, off, none⟩) n c, .slice S m d] 39)).alloc (.cells #[.int .i64 op, .int .i64 a1, .int .i64 a2, .int .i64 a3, .int .i64 n1] 43) = W at *
  have keep : ∀ w', Below W.heap.size W w' → w'.cell? ⟨w.heap.size, 0, none⟩ = some (.slice (some ⟨b, off, none⟩) n c) ∧ w'.cell? ⟨w.heap.size, 1, none⟩ = some (.slice S m d) ∧ w'.cell? ⟨w.heap.size + 1, 0, none⟩ = some (.int .i64 op) :=
    fun w' h => ⟨(h.cell (p := ⟨w.heap.size, 0, none⟩) (by show w.heap.size < _; omega)).trans p0, (h.cell (p := ⟨w.heap.size, 1, none⟩) (by show w.heap.size < _; omega)).trans p1, (h.cell (p := ⟨w.heap.size + 1, 0, none⟩) (by show w.heap.size + 1 < _; omega)).trans q0⟩
  have HK := Lib.hid keep
  have HB2 := Lib.hid hB2
  clear keep p0 p1 q0 hz hB2
  refine (check_any _ _ _ _ _ _ _ _ HT2.out).mono ?_
  rintro e w1 ⟨rfl, hb1⟩
  have H1 := Lib.hid hb1
  obtain ⟨p0, p1, q0⟩ := HK.out w1 hb1
  clear hb1
  by_cases hx : checkF op a1 a2 a3 n1 n funcs = 0
  · have e : placeF ⟨op, a1, a2, a3, n1⟩ n ss k funcs = if opWaits op && !(safeB ss k && safeB ss (k + 1)) then 10 else 0 := by simp [placeF, hx]
    have E := Lib.hid e
    rw [hx]
    clear e hx
    go_wp2_with fail
    refine (isaWaits_any _ _ (HT2.out.step H1.out)).mono ?_
    rintro e w2 ⟨rfl, hb2⟩
    have H2 := Lib.hid (H1.out.trans (hb2.mono H1.out.size))
    clear hb2 p0 p1 q0
    obtain ⟨p0, p1, q0⟩ := HK.out w2 H2.out
    cases hw : opWaits op
    · have e := E.out
      rw [hw] at e
      have E' := Lib.hid e
      clear e E
      go_wp2_with fail
      go_ret
      exact ⟨by rw [E'.out]; rfl, HB2.out.trans (H2.out.mono HB2.out.size)⟩
    · go_wp2_with fail
      refine (safe_any _ (.inl rfl) _ _ _ _ _ _ ss _ _ HM.out.symm HMM.out ((HS2.out.below H2.out).more H2.out.size)).mono ?_
      rintro e w3 ⟨rfl, hb3⟩
      have H3 := Lib.hid (H2.out.trans (hb3.mono H2.out.size))
      clear hb3 p0 p1 q0
      obtain ⟨p0, p1, q0⟩ := HK.out w3 H3.out
      cases hs : safeB ss k
      · have e := E.out
        rw [hw, hs] at e
        have E' := Lib.hid e
        clear e E
        go_wp2_with fail
        go_ret
        exact ⟨by rw [E'.out]; rfl, HB2.out.trans (H3.out.mono HB2.out.size)⟩
      · go_wp2_with fail
        refine (safe_any _ (.inl rfl) _ _ _ _ _ _ ss _ _ HM.out.symm HMM.out ((HS2.out.below H3.out).more H3.out.size)).mono ?_
        rintro e w4 ⟨rfl, hb4⟩
        have H4 := Lib.hid (H3.out.trans (hb4.mono H3.out.size))
        clear hb4 p0 p1 q0
        obtain ⟨p0, p1, q0⟩ := HK.out w4 H4.out
        cases hs1 : safeB ss (k + 1)
        · have e := E.out
          rw [hw, hs, hs1] at e
          have E' := Lib.hid e
          clear e E
          go_wp2_with fail
          go_ret
          exact ⟨by rw [E'.out]; rfl, HB2.out.trans (H4.out.mono HB2.out.size)⟩
        · have e := E.out
          rw [hw, hs, hs1] at e
          have E' := Lib.hid e
          clear e E
          go_wp2_with fail
          go_ret
          exact ⟨by rw [E'.out]; rfl, HB2.out.trans (H4.out.mono HB2.out.size)⟩
  · have e : placeF ⟨op, a1, a2, a3, n1⟩ n ss k funcs = checkF op a1 a2 a3 n1 n funcs := by simp [placeF, hx]
    have E := Lib.hid e
    have hx' : (checkF op a1 a2 a3 n1 n funcs != 0) = true := by simpa using hx
    clear e hx
    go_wp2_with fail
    go_ret
    exact ⟨by rw [E.out]; rfl, HB2.out.trans (H1.out.mono HB2.out.size)⟩
end Go.Proofs.YtfgaonkoaolffaaDoor

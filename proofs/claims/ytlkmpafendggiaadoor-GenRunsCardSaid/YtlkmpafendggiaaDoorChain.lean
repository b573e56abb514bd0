/-
  Chapter 33: contract of gen.Chain. Condition: the table is laid.
-/
import Derived.Test.YtlkmpafendggiaaDoorGen3
namespace Go.Proofs.YtlkmpafendggiaaDoor
open Go.RowKit
def chainP (k : Nat) : List Fn := [⟨List.replicate k spawnIns ++ [ins1 14 0], List.replicate (k + 1) false⟩, ⟨[ins1 23 1, ins1 15 1, ins1 11 0, ins1 14 0], List.replicate 4 false⟩]
set_option maxHeartbeats 2000000 in
set_option maxRecDepth 100000 in
theorem chain_bad (n : Int) (h : rightB n = false) (w : World) : Calls Tryd.prog 41 #[.int .i64 n] w fun e w' => NoneMade w w' e := by
  go_enter Tryd.func41, Tryd.ntmps41
  go_wp2_with (go_at_call 55; refine (right_any _ _).mono ?_; rintro e w1 ⟨rfl, rfl⟩; rw [h])
  exact bodyPost_ret (v := .tuple #[.agg #[.slice none 0 0], .int .i64 1]) (by simp [results, Tryd.results41, go_sem]) rfl ⟨rfl, ((Below.refl _ _).alloc (Nat.le_refl _) _)⟩
set_option maxHeartbeats 4000000 in
set_option maxRecDepth 100000 in
theorem chain_any (k : Nat) (h1 : 1 ≤ k) (h2 : k ≤ 61) (w : World) (hT : Tab w) : Calls Tryd.prog 41 #[.int .i64 k] w fun e w' => Made w w' e (chainP k) := by
  have hr : rightB k = true := by unfold rightB; simp; omega
  have HR := Lib.hid hr
  have HT := Lib.hid hT
  clear hr hT
  go_enter Tryd.func41, Tryd.ntmps41
  go_wp2_with (go_at_call 55; refine (right_any _ _).mono ?_; rintro e w1 ⟨rfl, rfl⟩; rw [HR.out])
  have hM0 := Maker.start (w.alloc (.cells #[.slice none 0 0] 32)) (.pointer none)
  rw [World.size_alloc] at hM0
  have hB0 : Below w.heap.size w ((w.alloc (.cells #[.slice none 0 0] 32)).alloc (.cells #[.pointer none, .slice none 0 0] 77)) := ((Below.refl _ _).alloc (Nat.le_refl _) _).alloc (by simp) _
  have hres : Blk ((w.alloc (.cells #[.slice none 0 0] 32)).alloc (.cells #[.pointer none, .slice none 0 0] 77)) w.heap.size 32 #[.slice none 0 0] := (Blk.new _ _ _).alloc _
  have HM0 := Lib.hid hM0
  have HB0 := Lib.hid hB0
  have HRES := Lib.hid hres
  clear hM0 hB0 hres
  generalize ((w.alloc (.cells #[.slice none 0 0] 32)).alloc (.cells #[.pointer none, .slice none 0 0] 77)) = Wm at *
  refine (gop_any _ _ _).mono ?_
  rintro e w3 ⟨rfl, hb3⟩
  have H3 := Lib.hid hb3
  clear hb3
  go_wp2_with fail
  refine (spawns_any k h2 _ 1 1 [ins1 14 0] _ rfl (by omega) (row_of_blk (Blk.new w3 _ _) (Blk.new w3 _ _).lt)).mono ?_
  rintro e w4 ⟨A4, c4, rfl, hown4, hb4⟩
  have hb34 : Below w3.heap.size w3 w4 := ((Below.refl _ _).alloc (Nat.le_refl _) _).trans (hb4.mono (by simp))
  have H4 := Lib.hid (H3.out.trans (hb34.mono H3.out.size))
  have HM4 := Lib.hid (HM0.out.below H4.out)
  have hown4' : Own w4 Wm.heap.size 26 5 A4 (k + 1) c4 ((List.replicate k spawnIns ++ [ins1 14 0]).flatMap insVals) := hown4.base_le (by rw [World.size_alloc]; have := H3.out.size; omega)
  have HO4 := Lib.hid hown4'
  clear hb34 hb4 hown4 hown4'
  go_wp2_with fail
  refine (put_any _ _ _ _ _ [] _ _ _ _ HM4.out.blk HM4.out.own (by simp) (by omega)).mono ?_
  rintro e w5 ⟨rfl, hp5⟩
  obtain ⟨G5, cG5, hM5⟩ := HM4.out.put (HO4.out.rowS.mono fun b hb => ⟨hb.2, Nat.ne_of_gt (Nat.lt_of_lt_of_le HM0.out.blk.lt hb.1), by simp [ob]⟩) (by simp) (by omega) (by
    intro x hx
    rw [List.mem_append] at hx
    rcases hx with hx | hx
    · rw [List.eq_of_mem_replicate hx]; exact insOk_small _ (by simp [spawnIns])
    · simp only [List.mem_cons, List.not_mem_nil, or_false] at hx
      subst hx; exact insOk_small _ (by simp [ins1])) hp5
  have hBp : Below w.heap.size w w5 := (HB0.out.trans (H4.out.mono HB0.out.size)).trans (by obtain ⟨_, _, _, _, _, _, q, _⟩ := hp5; exact q.mono (by simp))
  have hres5 : Blk w5 w.heap.size 32 #[.slice none 0 0] := (HRES.out.below H4.out HRES.out.lt).below (by obtain ⟨_, _, _, _, _, _, q, _⟩ := hp5; exact q) (by omega)
  have HB5 := Lib.hid hBp
  have HM5 := Lib.hid hM5
  have HRES5 := Lib.hid hres5
  clear hp5 hM5 hBp hres5 HM4 HO4 HM0 HRES
  go_wp2_with fail
  refine (gop_any _ _ _).mono ?_
  rintro e w61 ⟨rfl, hb6⟩
  have H61 := Lib.hid hb6
  clear hb6
  go_wp2_with fail
  refine (gop_any _ _ _).mono ?_
  rintro e w62 ⟨rfl, hb7⟩
  have H62 := Lib.hid (H61.out.trans (hb7.mono H61.out.size))
  clear hb7
  go_wp2_with fail
  refine (gop_any _ _ _).mono ?_
  rintro e w6 ⟨rfl, hb7⟩
  have H6 := Lib.hid (H62.out.trans (hb7.mono H62.out.size))
  clear hb7
  go_wp2_with fail
  refine (gop_any _ _ _).mono ?_
  rintro e w7 ⟨rfl, hb7⟩
  have H7 := Lib.hid (H6.out.trans (hb7.mono H6.out.size))
  clear hb7
  go_wp2_with fail
  have hb8 := Blk.new w7 26 #[.int .i64 23, .int .i64 1, .int .i64 0, .int .i64 0, .int .i64 0, .int .i64 15, .int .i64 1, .int .i64 0, .int .i64 0, .int .i64 0, .int .i64 11, .int .i64 0, .int .i64 0, .int .i64 0, .int .i64 0, .int .i64 14, .int .i64 0, .int .i64 0, .int .i64 0, .int .i64 0]
  have hB8 : Below w5.heap.size w5 (w7.alloc (.cells #[.int .i64 23, .int .i64 1, .int .i64 0, .int .i64 0, .int .i64 0, .int .i64 15, .int .i64 1, .int .i64 0, .int .i64 0, .int .i64 0, .int .i64 11, .int .i64 0, .int .i64 0, .int .i64 0, .int .i64 0, .int .i64 14, .int .i64 0, .int .i64 0, .int .i64 0, .int .i64 0] 26)) := H7.out.alloc H7.out.size _
  have HB8 := Lib.hid hB8
  have HBK8 := Lib.hid hb8
  clear hb8 hB8
  generalize (w7.alloc (.cells #[.int .i64 23, .int .i64 1, .int .i64 0, .int .i64 0, .int .i64 0, .int .i64 15, .int .i64 1, .int .i64 0, .int .i64 0, .int .i64 0, .int .i64 11, .int .i64 0, .int .i64 0, .int .i64 0, .int .i64 0, .int .i64 14, .int .i64 0, .int .i64 0, .int .i64 0, .int .i64 0] 26)) = W8 at *
  have HM8 := Lib.hid (HM5.out.below HB8.out)
  refine (put_any _ _ _ _ _ _ _ _ _ _ HM8.out.blk HM8.out.own (by simp) (by omega)).mono ?_
  rintro e w9 ⟨rfl, hp9⟩
  have hrow : RowS W8 (Offn W8 (w.heap.size + 1) G5) (some ⟨w7.heap.size, 0, none⟩) ([ins1 23 1, ins1 15 1, ins1 11 0, ins1 14 0].flatMap insVals) := (Blk.rowS (xs := [ins1 23 1, ins1 15 1, ins1 11 0, ins1 14 0].flatMap insVals) HBK8.out).mono fun b hb => by
    subst hb
    exact HM5.out.off _ H7.out.size HBK8.out.lt
  obtain ⟨G9, cG9, hM9⟩ := HM8.out.put hrow (by simp) (by omega) (by
    intro x hx
    simp only [List.mem_cons, List.not_mem_nil, or_false] at hx
    rcases hx with rfl | rfl | rfl | rfl <;> exact insOk_small _ (by simp [ins1])) hp9
  have q5 : Below (w.heap.size + 1) W8 w9 := by obtain ⟨_, _, _, _, _, _, q, _⟩ := hp9; exact q
  have hg9 := hM9.blk.cell 1
  simp at hg9
  have HM9 := Lib.hid hM9
  have HQ5 := Lib.hid q5
  clear hp9 hrow hM9 q5
  go_wp2_with fail
  have hB9 : Below w.heap.size w w9 := (HB5.out.trans (HB8.out.mono HB5.out.size)).trans (HQ5.out.mono (by omega))
  have hr9 : Blk w9 w.heap.size 32 #[.slice none 0 0] := (HRES5.out.below HB8.out HRES5.out.lt).below HQ5.out (by omega)
  have HB9 := Lib.hid hB9
  have HR9 := Lib.hid hr9
  clear hB9 hr9 hg9
  generalize w9 = W9 at *
  refine (mend_own _ _ (chainP k) W9 (HT.out.step HB9.out) (by simp [chainP]) (by
    intro f hf
    simp only [chainP, List.mem_cons, List.not_mem_nil, or_false] at hf
    rcases hf with rfl | rfl
    · simp; omega
    · simp) (HM9.out.fns.ok (fun b hb => hb.1) HM9.out.own.rowN)).mono ?_
  rintro e w10 ⟨A10, c10, rfl, hf10, hb10⟩
  have HF10 := Lib.hid hf10
  have hr10 := HR9.out.below hb10 HR9.out.lt
  have q0 := hr10.cell 0
  have q1 := hr10.frozen 0
  have q2 := hr10.lt
  simp at q0
  have HB10 := Lib.hid (HB9.out.trans (hb10.mono HB9.out.size))
  have hlt9 : w.heap.size < W9.heap.size := HR9.out.lt
  clear hf10 hb10 hr10
  go_wp2_with fail
  exact bodyPost_ret (v := .tuple #[.agg #[.slice A10 (chainP k).length c10], .int .i64 0]) (by simp [results, Tryd.results41, go_sem, q0]) rfl ⟨A10, c10, rfl, (HF10.out.far (p := ⟨w.heap.size, 0, none⟩) hlt9 _).ok, HB10.out.setCell (Nat.le_refl _) _⟩
end Go.Proofs.YtlkmpafendggiaaDoor

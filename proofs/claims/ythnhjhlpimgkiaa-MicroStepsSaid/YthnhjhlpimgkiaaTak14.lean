/-
  Chapter 14: take: the next cell of the row into the buffer.
-/
import Derived.Test.YthnhjhlpimgkiaaGbt14
namespace Go.Proofs.Ythnhjhlpimgkiaa
open Go.RowKit
/-- A block that is none of these. -/
def BufFar (A : Option Addr) (gt gr gc gl : Nat) : Prop := ∀ b, ob A = some b → b ≠ gt ∧ b ≠ gr ∧ b ≠ gc ∧ b ≠ gl
/-- Only blocks of L may have changed. -/
def SL (L : List Nat) (w w' : World) : Prop := Mv L w w'
theorem SL.cell {L : List Nat} {w w' : World} (h : SL L w w') {g : Nat} {t : TypeId} {cs : Array Value} (hb : Blk w g t cs) (h1 : g ∉ L) {i : Nat} {v : Value} (hc : w.cell? ⟨g, i, none⟩ = some v) : w'.cell? ⟨g, i, none⟩ = some v := by
  have := (Mv.blk h hb h1).cell i
  rw [this]
  rw [hb.cell i] at hc
  exact hc
theorem Mv.of_grown {L : List Nat} {w w' : World} {A : Option Addr} (h : w.grownBy w' (ob A)) (hl : ∀ b, ob A = some b → b ∈ L) : Mv L w w' :=
  ⟨h.os, h.tape, h.output, h.size, fun k hk hn => h.block k hk (fun e => hn (hl k e.symm))⟩
theorem own_mv {L : List Nat} {w w' : World} {base size n c : Nat} {e : TypeId} {A : Option Addr} {xs : List Value} (h : Own w base e size A n c xs) (hm : Mv L w w') (hl : ∀ b, ob A = some b → b ∉ L) : Own w' base e size A n c xs := by
  refine ⟨h.1, ?_⟩
  rcases h.2 with h2 | ⟨g, cap, cur, hv, hb, hg, rest⟩
  · exact .inl h2
  · have hA : ob A = some g := by
      injection hv with hv
      rw [hv]
      rfl
    exact .inr ⟨g, cap, cur, hv, hb, hm.blk hg (hl g hA), rest⟩
theorem M14.grown {w w' : World} {gt gr gc gl kc size cnt : Nat} {ex : List Value} {xs : List Int} {T : Tk} {A : Option Addr} (M : M14 w gt gr gc gl kc ex size xs cnt T) (h : w.grownBy w' (ob A)) (hf : BufFar A gt gr gc gl) : M14 w' gt gr gc gl kc ex size xs cnt T :=
  ⟨M.cells.kept h (fun e => (hf _ e.symm).2.2.1 rfl) (fun e => (hf _ e.symm).2.2.2 rfl), M.ring.grown h (fun e => (hf _ e.symm).2.1 rfl), M.task.grown h (fun e => (hf _ e.symm).1 rfl), M.n1, M.n2, M.fits, M.few, M.ok⟩
set_option maxHeartbeats 2000000 in
theorem take_any {w : World} {gt gr gc gl kc size cnt : Nat} {ex : List Value} {xs : List Int} {T : Tk} (M : M14 w gt gr gc gl kc ex size xs cnt T) (hb : cnt < 899999) (k : Nat) (A : Option Addr) (n c base : Nat) (bs : List Int) (hbuf : T.buf = .slice A n c) (hO : Own w base 2 1 A n c (ints bs)) (hbase : base ≤ w.heap.size) (hn : n ≤ 1000) (hfar : BufFar A gt gr gc gl)
    (i : Nat) (hie : i = 3 + u ((T.head : Int) + n) % size) (hi : i < xs.length) :
    Calls Try.prog 64 #[.pointer (some ⟨gt, 0, none⟩), .func (.func k) #[] #[]] w fun e w' => e = .returned (.tuple #[]) ∧ ∃ A' c', M14 w' gt gr gc gl kc ex size xs (cnt + 1) { T with buf := .slice A' (n + 1) c', d := if n + 1 = T.many then some k else T.d } ∧ Own w' base 2 1 A' (n + 1) c' (ints (bs ++ [xs[i]])) ∧ Mv ([gc, gl, gt] ++ (ob A).toList) w w' ∧ (ob A' = ob A ∨ ∃ b, ob A' = some b ∧ w.heap.size ≤ b) := by
  have MD : M14 w.drew gt gr gc gl kc ex size xs cnt T := M.step (Below.refl _ _).drew
  obtain ⟨p, HP⟩ : ∃ p, Hid (p = u ((T.head : Int) + n)) := ⟨_, Lib.hid rfl⟩
  rw [← HP.out] at hie
  have hp : p < 4294967296 := by rw [HP.out]; exact u_lt _
  have hw2 : ((T.head : Int) + n) % 4294967296 = p := by rw [HP.out]; exact mod_u _
  have HC := mcell_any MD.ring p hp M.fits.1
  rw [← hie] at HC
  have HC := Lib.hid HC
  obtain ⟨x, HX⟩ : ∃ x, Hid (x = xs[i]) := ⟨_, Lib.hid rfl⟩
  have HS := load_any MD.cells i hi (by omega)
  rw [← HX.out] at HS ⊢
  have HS := Lib.hid HS
  have HM := Lib.hid MD
  obtain ⟨c0, c1, -, -, c4, -, c6, c7, -, -⟩ := ten_ M.task
  rw [hbuf] at c7
  obtain ⟨L, HLL⟩ : ∃ L : List Nat, Hid (L = [gc, gl] ++ (ob A).toList) := ⟨_, Lib.hid rfl⟩
  have hgt : gt ∉ L := by
    rw [HLL.out]
    intro h
    simp only [List.cons_append, List.nil_append, List.mem_cons, Option.mem_toList] at h
    rcases h with h | h | h
    · exact M.n1.2.1 h
    · exact M.n1.2.2 h
    · exact (hfar gt h).1 rfl
  have hgr : gr ∉ L := by
    rw [HLL.out]
    intro h
    simp only [List.cons_append, List.nil_append, List.mem_cons, Option.mem_toList] at h
    rcases h with h | h | h
    · exact M.n2.1 h
    · exact M.n2.2 h
    · exact (hfar gr h).2.1 rfl
  have F0 : ∀ w', SL L w w' → w'.cell? ⟨gt, 0, none⟩ = some (.pointer (some ⟨gr, 0, none⟩)) := fun w' h => h.cell M.task hgt c0
  have F4 : ∀ w', SL L w w' → w'.cell? ⟨gt, 4, none⟩ = some (.int .u32 T.head) := fun w' h => h.cell M.task hgt c4
  have F7 : ∀ w', SL L w w' → w'.cell? ⟨gt, 7, none⟩ = some (.slice A n c) := fun w' h => h.cell M.task hgt c7
  have R0 : ∀ w', SL L w w' → w'.cell? ⟨gr, 0, none⟩ = some (.pointer (some ⟨gc, 0, none⟩)) := fun w' h => h.cell M.ring hgr ((M.ring.cell 0).trans rfl)
  have hd : SL L w w.drew := Mv.of_below (Below.refl _ w).drew (Nat.le_refl _)
  have HD := Lib.hid hd
  have HGT := Lib.hid hgt
  have HGR := Lib.hid hgr
  obtain ⟨i0, hi0, hz0, hz1, hz2⟩ := info_parts Try.info2
  have HI := Lib.hid hi0
  have HZ0 := Lib.hid hz0
  have HZ1 := Lib.hid hz1
  have HZ2 := Lib.hid hz2
  have HOW := Lib.hid hO
  have HGTL := Lib.hid M.task.lt
  have HFAR := Lib.hid hfar
  have HBA := Lib.hid hbase
  clear HX hie hO hfar hbase hi0 hz0 hz1 hz2 hgt hgr
  clear M MD hi c0 c1 c4 c6 c7 hd hbuf
  go_enter Try.func64, Try.ntmps64
  go_wp2_with fail
  refine region_schE (SL L w) [([0, 1, 2, 3, 4, 5, 6, 7, 8, 9, 10, 11, 12, 13, 14, 15, 16, 17, 18, 19, 20, 21, 22, 23, 24, 25, 26], 27), ([], 28), ([], 29), ([], 30)] [31, 32] 33 (by kernel_rfl) (by kernel_rfl) (by kernel_rfl) (fun _ _ d _ _ h => by cases d <;> exact h) HD.out ?_
  (try simp only [Act.put, List.setIfInBounds_toArray, List.set_cons_zero, List.set_cons_succ]); refine schE_seg ?_; simp only [pickOps, List.getElem?_toArray, List.getElem?_cons_zero, List.getElem?_cons_succ]; (repeat (first | go_big_quiet_skip | (go_big_quiet_want; first | (go_big_quiet_op; first | go_big_quiet_on | ((first | with_reducible refine ⟨_, fun _ _ => rfl, ?_⟩); go_big_quiet_on)) | (simp (contextual := true) [go_sem, F0, F4, F7, R0]; with_reducible refine ⟨_, fun _ _ => rfl, ?_⟩; go_big_quiet_on)))); refine wpQuiet_nil ?_
  go_wp2_with fail
  refine HC.out.mono ?_
  rintro e w1 ⟨rfl, rfl⟩
  go_wp2_with fail
  refine ⟨SL L w, HD.out, fun _ h => h, ?_⟩
  (try simp only [Act.put, List.setIfInBounds_toArray, List.set_cons_zero, List.set_cons_succ]); refine schE_seg ?_; simp only [pickOps, List.getElem?_toArray, List.getElem?_cons_zero, List.getElem?_cons_succ]; (repeat (first | go_big_quiet_skip | (go_big_quiet_want; first | (go_big_quiet_op; first | go_big_quiet_on | ((first | with_reducible refine ⟨_, fun _ _ => rfl, ?_⟩); go_big_quiet_on)) | (simp (contextual := true) [go_sem, F0]; with_reducible refine ⟨_, fun _ _ => rfl, ?_⟩; go_big_quiet_on)))); refine wpQuiet_nil ?_
  go_wp2_with fail
  refine HS.out.mono ?_
  rintro e w2 ⟨rfl, hC, hV⟩
  have HM2 := Lib.hid (HM.out.load hC (hV.mono (by simp)) rfl hb)
  have HV2 := Lib.hid (show SL L w w2 from Mv.trans HD.out (hV.mono (by rw [HLL.out]; simp)))
  go_wp2_with fail
  refine ⟨SL L w, HV2.out, fun _ h => h, ?_⟩
  have HO2 := Lib.hid (own_mv (own_mv HOW.out (Mv.of_below (Below.refl _ w).drew (Nat.le_refl _) : Mv [] w w.drew) (by simp)) hV (by intro b hb; have := HFAR.out b hb; simp; omega))
  (try simp only [Act.put, List.setIfInBounds_toArray, List.set_cons_zero, List.set_cons_succ]); refine schE_seg ?_; simp only [pickOps, List.getElem?_toArray, List.getElem?_cons_zero, List.getElem?_cons_succ]; (repeat (first | go_big_quiet_skip | (go_big_quiet_want; first | (go_big_quiet_op; first | go_big_quiet_on | ((first | with_reducible refine ⟨_, fun _ _ => rfl, ?_⟩); go_big_quiet_on)) | (simp (contextual := true) [go_sem, F0]; with_reducible refine ⟨_, fun _ _ => rfl, ?_⟩; go_big_quiet_on)))); refine wpQuiet_nil ?_
  obtain ⟨w3, HW3⟩ : ∃ w3, Hid (w3 = w2.alloc (.cells #[.int .i64 x] 2)) := ⟨_, Lib.hid rfl⟩
  have hb3 : Below w2.heap.size w2 w3 := by rw [HW3.out]; exact (Below.refl _ w2).alloc (Nat.le_refl _) _
  have HM3 := Lib.hid (HM2.out.step hb3)
  have HV3 := Lib.hid (show SL L w w3 from Mv.trans HV2.out (Mv.of_below hb3 (Nat.le_refl _)))
  have HO3 := Lib.hid (own_mv HO2.out (Mv.of_below hb3 (Nat.le_refl _) : Mv [] w2 w3) (by simp))
  have HB3 := Lib.hid (show Blk w3 w2.heap.size 2 #[.int .i64 x] by rw [HW3.out]; exact Blk.new _ _ _)
  have HCX := Lib.hid (show ∀ j u, (ints [x])[j]? = some u → w3.cell? ((⟨w2.heap.size, 0, none⟩ : Addr).add j) = some u by
    intro j u hu
    rw [Addr.add_lit, Nat.zero_add, HB3.out.cell j]
    simpa [ints] using hu)
  have HBS := Lib.hid (show base ≤ w3.heap.size from Nat.le_trans HBA.out HV3.out.size)
  have H64 : Hid (n + 1 ≤ maxLen) := by unfold maxLen; show _ ≤ _; omega
  clear hb3 hC hV
  go_wp2_with fail
  rw [← HW3.out]
  refine ⟨SL L w, HV3.out, fun _ h => h, ?_⟩
  (try simp only [Act.put, List.setIfInBounds_toArray, List.set_cons_zero, List.set_cons_succ]); refine schE_seg ?_; simp only [pickOps, List.getElem?_toArray, List.getElem?_cons_zero, List.getElem?_cons_succ]; (repeat (first | go_big_quiet_skip | (go_big_quiet_want; first | (go_big_quiet_op; first | go_big_quiet_on | ((first | with_reducible refine ⟨_, fun _ _ => rfl, ?_⟩); go_big_quiet_on)) | (simp (contextual := true) [go_sem, F0]; with_reducible refine ⟨_, fun _ _ => rfl, ?_⟩; go_big_quiet_on)))); refine wpQuiet_nil ?_
  go_wp2_with (at_builtin; go_must (refine wpList_append_1 _ rfl _ _ 31 rfl base 2 i0 _ 1 8 Try.underlying31 HI.out HZ0.out HZ1.out HZ2.out rfl (by decide) A n c (ints bs) rfl HO3.out ⟨w2.heap.size, 0, none⟩ 1 (ints [x]) rfl rfl HCX.out (by simp [ints, Value.oneCell']) H64.out (by omega) HBS.out ?_); intro A' c' w4 hown hgrow hat)
  have HM4 := Lib.hid (HM3.out.grown hgrow HFAR.out)
  have HV4 := Lib.hid (show SL L w w4 from Mv.trans HV3.out (Mv.of_grown hgrow (by intro b hb; rw [HLL.out]; simp [hb])))
  have HO4 := Lib.hid (show Own w4 base 2 1 A' (n + 1) c' (ints (bs ++ [x])) by simpa [ints] using hown)
  have HAT := Lib.hid (show ob A' = ob A ∨ ∃ b, ob A' = some b ∧ w.heap.size ≤ b from hat.imp id (fun e => ⟨_, e, HV3.out.size⟩))
  clear hown hgrow hat
  refine ⟨SL L w, HV4.out, fun _ h => h, ?_⟩
  (try simp only [Act.put, List.setIfInBounds_toArray, List.set_cons_zero, List.set_cons_succ]); refine schE_last ?_; simp only [pickOps, List.getElem?_toArray, List.getElem?_cons_zero, List.getElem?_cons_succ]; (repeat (first | go_big_quiet_skip | (go_big_quiet_want; first | (go_big_quiet_op; first | go_big_quiet_on | ((first | with_reducible refine ⟨_, fun _ _ => rfl, ?_⟩); go_big_quiet_on)) | (simp (contextual := true) [go_sem, F0]; with_reducible refine ⟨_, fun _ _ => rfl, ?_⟩; go_big_quiet_on)))); refine wpQuiet_nil ?_
  obtain ⟨-, -, -, -, -, -, -, k7, -⟩ := ten_ HM4.out.task
  have f7 := HM4.out.task.frozen 7
  clear F0 F4 F7 R0
  go_wp2_with fail
  obtain ⟨w5, HW5⟩ : ∃ w5, Hid (w5 = w4.setCell ⟨gt, 7, none⟩ (.slice A' (n + 1) c')) := ⟨_, Lib.hid rfl⟩
  rw [← HW5.out]
  have HM5 := Lib.hid (show M14 w5 gt gr gc gl kc ex size xs (cnt + 1) { T with buf := .slice A' (n + 1) c' } by rw [HW5.out]; exact HM4.out.setT 7 _ rfl HM4.out.ok)
  have hv5 : Mv [gt] w4 w5 := by rw [HW5.out]; exact (Mv.refl _ _).set _ _ (by simp)
  have HO5 := Lib.hid (own_mv HO4.out hv5 (by
    intro b hb
    simp only [List.mem_singleton]
    rcases HAT.out with h | ⟨b2, h, h2⟩
    · exact (HFAR.out b (h ▸ hb)).1
    · rw [h] at hb
      injection hb with hb
      have := HGTL.out
      omega))
  have HV5 := Lib.hid (show Mv ([gc, gl, gt] ++ (ob A).toList) w w5 from (HV4.out.mono (by rw [HLL.out]; intro k hk _; simp at hk ⊢; rcases hk with h | h | h <;> simp [h])).trans (hv5.mono (by simp)))
  obtain ⟨-, q1, -, -, -, -, q6, q7, -, -⟩ := ten_ HM5.out.task
  have g1 := HM5.out.task.frozen 1
  simp only at q1 q6 q7
  clear k7 f7 hv5
  by_cases hq : n + 1 = T.many
  · have he1 : ((n : Int) + 1 == T.many) = true := by simp; omega
    have he2 : (((n + 1 : Nat) : Int) == T.many) = true := by simp; omega
    have HQ := Lib.hid hq
    clear hq
    go_quiet (fail)
    go_wp2_with fail
    go_end0
    exact ⟨rfl, A', c', (by rw [HQ.out] at HM5; exact (HM5.out.step (below_drewN w5.heap.size w5 nq)).setT 1 _ rfl HM5.out.ok), own_mv (by rw [HQ.out] at HO5; exact HO5.out) (((Mv.of_below (below_drewN w5.heap.size w5 nq) (Nat.le_refl _) : Mv [gt] w5 _)).set _ _ (by simp)) (by
      intro b hb
      simp only [List.mem_singleton]
      rcases HAT.out with h | ⟨b2, h, h2⟩
      · exact (HFAR.out b (h ▸ hb)).1
      · rw [h] at hb
        injection hb with hb
        have := HGTL.out
        omega), (HV5.out.trans (Mv.of_below (below_drewN _ _ _) (Nat.le_refl _))).set _ _ (by simp), HAT.out⟩
  · have he1 : ((n : Int) + 1 == T.many) = false := by simp; omega
    have he2 : (((n + 1 : Nat) : Int) == T.many) = false := by simp; omega
    go_quiet (fail)
    go_wp2_with fail
    go_end0
    exact ⟨rfl, A', c', HM5.out.step (below_drewN _ _ _), own_mv HO5.out (Mv.of_below (below_drewN w5.heap.size w5 nq) (Nat.le_refl _) : Mv [] w5 _) (by simp), HV5.out.trans (Mv.of_below (below_drewN _ _ _) (Nat.le_refl _)), HAT.out⟩
end Go.Proofs.Ythnhjhlpimgkiaa

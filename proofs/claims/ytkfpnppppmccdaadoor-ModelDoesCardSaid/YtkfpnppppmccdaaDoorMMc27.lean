/-
  Chapter 27: how a deed is found; what all of them answer.
-/
import Derived.Test.YtkfpnppppmccdaaDoorMMb27
import Derived.Test.YtkfpnppppmccdaaDoorApp
import Derived.Test.YtkfpnppppmccdaaDoorSchT
namespace Go.Proofs.YtkfpnppppmccdaaDoor
open Go.RowKit
/-- A thread that begins. -/
def newTh (fn arg : Int) : Th := ⟨fn, 0, [arg, 0, 0, 0, 0, 0, 0, 0], [], false⟩
def newGo (fn arg : Int) : Go := ⟨newTh fn arg, false, false, false, false⟩
theorem Tryd.infoPg : (Tryd.prog.info? 65).map (fun i => (i.zero, i.size, i.bytes)) = some (some (.pointer none), 1, 8) := by kernel_rfl
theorem Mv.of_grown {L : List Nat} {w w' : World} {A : Option Addr} (h : w.grownBy w' (ob A)) (hl : ∀ b, ob A = some b → b ∈ L) : Mv L w w' :=
  ⟨h.os, h.tape, h.output, h.size, fun k hk hn => h.block k hk (fun e => hn (hl k e.symm))⟩
def SZ (L : Option Addr) (w w' : World) : Prop := Mv (ob L).toList w w'
theorem SZ.cell {L : Option Addr} {w w' : World} (h : SZ L w w') {g : Nat} {t : TypeId} {cs : Array Value} (hb : Blk w g t cs) (hg : ob L ≠ some g) {i : Nat} {v : Value} (hc : cs[i]? = some v) : w'.cell? ⟨g, i, none⟩ = some v :=
  ((Mv.blk h hb (by rw [Option.mem_toList]; exact hg)).cell i).trans hc
theorem thok_lt {w : World} {t : Th} {B : Option Addr} {d : Nat} (h : ThOk w w.heap.size t B d) (hx : t.stack ≠ []) (b : Nat) (hb : ob B = some b) : b < w.heap.size := by
  rcases h.row with e | ⟨b2, off, rfl, hb2, _⟩
  · exfalso
    cases hs : t.stack with
    | nil => exact hx hs
    | cons u l => rw [hs] at e; simp [frVals] at e
  · have : b2 = b := by simpa [ob] using hb
    omega
section
variable {w : World} {m gm : Nat} {F : Option Addr} {fc : Nat} {fs : List Fn} {M : Md} {ps : List Nat} {L : Option Addr} {c : Nat} {Bs : List (Option Addr × Nat)}
/-- One more goroutine. -/
theorem MdIs.addGo (h : MdIs w m gm F fc fs M ps L c Bs) (hs : m ≤ w.heap.size) (x : Go) {w' : World} {pn c' : Nat} {A' : Option Addr} (hm : Mv (gm :: (ob L).toList) w w') (hb : Blk w' gm 71 #[.slice F fs.length fc, .int .i64 M.gs, .slice A' (ps.length + 1) c', .int .i64 M.holder, .int .i64 M.owner])
    (hrow : Own w' m 65 1 A' (ps.length + 1) c' (ps.map pptr ++ [pptr pn])) (hat : ob A' = ob L ∨ ∃ b, ob A' = some b ∧ pn < b) (hpn : w.heap.size ≤ pn) (hp : Blk w' pn 68 (goArr x none 0)) (hx : x.th.stack = []) (hr : x.th.regs.length = 8) (hf : fitsT fs x.th = true) (hfew : M.l.length < 100) :
    MdIs w' m gm F fc fs { M with l := M.l ++ [x] } (ps ++ [pn]) A' c' (Bs ++ [(none, 0)]) := by
  have hlp := h.lp
  have hlb := h.lb
  have hgl := h.head.lt
  have hpl : ∀ p ∈ ps, p < w.heap.size := by
    intro p hp
    obtain ⟨k, hk, rfl⟩ := List.mem_iff_getElem.1 hp
    exact (h.mem k (by omega)).lt
  have hLl : ∀ b, ob L = some b → m ≤ b ∧ b < w.heap.size := h.row.lt
  have hpg : ∀ p ∈ ps, p ∉ gm :: (ob L).toList := by
    intro p hp hc
    rcases List.mem_cons.1 hc with e | hc
    · exact h.ng.1 (e ▸ hp)
    · exact (h.ng.2 p (Option.mem_toList.1 hc)).2 hp
  have hB : ∀ (k : Nat) (hk : k < M.l.length), M.l[k].th.stack ≠ [] → ∀ (b : Nat), ob (Bs[k]'(by omega)).1 = some b → b ∉ gm :: (ob L).toList := by
    intro k hk hx b hb hc
    have hfr := h.far k hk hx b hb
    rcases List.mem_cons.1 hc with e | hc
    · exact hfr.1 e
    · exact hfr.2.2 (Option.mem_toList.1 hc)
  have hA : ∀ b, ob A' = some b → ob L = some b ∨ pn < b := by
    intro b hb
    rcases hat with e | ⟨b2, e, h2⟩
    · exact .inl (e ▸ hb)
    · rw [e] at hb
      injection hb with hb
      exact .inr (hb ▸ h2)
  have hcase : ∀ k, k < (M.l ++ [x]).length → k < M.l.length ∨ k = M.l.length := by
    intro k hk
    rw [List.length_append] at hk
    simp at hk
    omega
  have e1 : ∀ k (hk : k < (M.l ++ [x]).length) (h1 : k < M.l.length), (M.l ++ [x])[k] = M.l[k] := fun k hk h1 => List.getElem_append_left h1
  have e2 : ∀ k (hk : k < (ps ++ [pn]).length) (h1 : k < ps.length), (ps ++ [pn])[k] = ps[k] := fun k hk h1 => List.getElem_append_left h1
  have e3 : ∀ k (hk : k < (Bs ++ [((none : Option Addr), 0)]).length) (h1 : k < Bs.length), (Bs ++ [((none : Option Addr), 0)])[k] = Bs[k] := fun k hk h1 => List.getElem_append_left h1
  have l1 : ∀ (hk : M.l.length < (M.l ++ [x]).length), (M.l ++ [x])[M.l.length] = x := fun _ => List.getElem_concat_length rfl _
  have l2 : ∀ k (hk : k < (ps ++ [pn]).length), k = ps.length → (ps ++ [pn])[k] = pn := fun k hk e => by subst e; exact List.getElem_concat_length rfl _
  have l3 : ∀ k (hk : k < (Bs ++ [((none : Option Addr), 0)]).length), k = Bs.length → (Bs ++ [((none : Option Addr), 0)])[k] = (none, 0) := fun k hk e => by subst e; exact List.getElem_concat_length rfl _
  refine ⟨by rw [List.length_append]; exact hb, by simp [hlp], by simp [hlb], by rw [List.length_append, List.map_append]; exact hrow, ?_, ?_, ?_, ?_, ?_, ?_, ?_, ⟨prog_mv h.prog.1 hm hs ?_, h.prog.2⟩, ?_, by simp; omega⟩
  · intro k hk
    rcases hcase k hk with h1 | rfl
    · show Blk w' _ _ (goArr (M.l ++ [x])[k] _ _)
      rw [e1 k hk h1, e2 k (by simp; omega) (by omega), e3 k (by simp; omega) (by omega)]
      exact hm.blk (h.mem k h1) (hpg _ (List.getElem_mem _))
    · show Blk w' _ _ (goArr (M.l ++ [x])[M.l.length] _ _)
      rw [l1 hk, l2 _ (by simp; omega) hlp.symm, l3 _ (by simp; omega) hlb.symm]
      exact hp
  · intro k hk
    rcases hcase k hk with h1 | rfl
    · show ThOk w' _ (M.l ++ [x])[k].th _ _
      rw [e1 k hk h1, e3 k (by simp; omega) (by omega)]
      exact thok_mv (h.th k h1) hm (hB k h1)
    · show ThOk w' _ (M.l ++ [x])[M.l.length].th _ _
      rw [l1 hk, l3 _ (by simp; omega) hlb.symm]
      exact ⟨hr, .inl (by rw [hx]; rfl), by rw [hx]; exact Nat.zero_le _, by simp⟩
  · intro k hk hx b hb'
    rcases hcase k hk with h1 | rfl
    · rw [e3 k (by simp; omega) (by omega)] at hb'
      have hx' : M.l[k].th.stack ≠ [] := by
        rw [← e1 k hk h1]
        exact hx
      have hfr := h.far k h1 hx' b hb'
      have hol := thok_lt (h.th k h1) hx' b hb'
      refine ⟨hfr.1, ?_, ?_⟩
      · intro hc
        rw [List.mem_append, List.mem_singleton] at hc
        rcases hc with hc | hc
        · exact hfr.2.1 hc
        · omega
      · intro hc
        rcases hA b hc with hc | hc
        · exact hfr.2.2 hc
        · omega
    · rw [l3 _ (by simp; omega) hlb.symm] at hb'
      cases hb'
  · rw [List.nodup_append]
    refine ⟨h.nd, by simp, ?_⟩
    intro a ha b hb e
    have := hpl a ha
    rw [List.mem_singleton] at hb
    omega
  · refine ⟨?_, ?_⟩
    · rw [List.mem_append, List.mem_singleton]
      rintro (hc | hc)
      · exact h.ng.1 hc
      · omega
    · intro b hb'
      rw [List.mem_append, List.mem_singleton]
      rcases hA b hb' with hc | hc
      · have h2 := h.ng.2 b hc
        have h3 := (hLl b hc).2
        exact ⟨h2.1, fun h4 => h4.elim h2.2 (by omega)⟩
      · refine ⟨by omega, fun h4 => h4.elim (fun h5 => ?_) (by omega)⟩
        have := hpl b h5
        omega
  · intro k hk
    rcases hcase k hk with h1 | rfl
    · show fitsT fs (M.l ++ [x])[k].th = true
      rw [e1 k hk h1]
      exact h.fits k h1
    · show fitsT fs (M.l ++ [x])[M.l.length].th = true
      rw [l1 hk]
      exact hf
  · intro k hk
    rcases hcase k hk with h1 | rfl
    · show (M.l ++ [x])[k].th.stack.length ≤ 40
      rw [e1 k hk h1]
      exact h.stk k h1
    · show (M.l ++ [x])[M.l.length].th.stack.length ≤ 40
      rw [l1 hk, hx]
      exact Nat.zero_le _
  · intro b hb'
    rcases List.mem_cons.1 hb' with e | hc
    · exact e ▸ h.low.1
    · exact (hLl b (Option.mem_toList.1 hc)).1
  · refine ⟨h.low.1, fun p hp' => ?_⟩
    rw [List.mem_append, List.mem_singleton] at hp'
    rcases hp' with hp' | hp'
    · exact h.low.2 p hp'
    · omega
set_option maxRecDepth 10000 in
set_option maxHeartbeats 1000000 in
theorem spawn1_any (h : MdIs w m gm F fc fs M ps L c Bs) (hs : m ≤ w.heap.size) {q qa gd : Nat} {cs : Array Value} {N arg : Int} (hq : Blk w q 90 #[.pointer (some ⟨gd, 0, none⟩)]) (hqa : Blk w qa 2 #[.int .i64 arg]) (hd : Blk w gd 92 cs) (hc0 : cs[0]? = some (.pointer (some ⟨gm, 0, none⟩))) (hc7 : cs[7]? = some (.int .i64 N)) (hqL : ob L ≠ some q) (haL : ob L ≠ some qa) (hdL : ob L ≠ some gd) (hfit : fitsT fs (newTh N arg) = true) (hfew : M.l.length < 100) :
    Calls Tryd.prog 92 #[.pointer (some ⟨q, 0, none⟩), .pointer (some ⟨qa, 0, none⟩)] w fun e w' => e = .returned (.tuple #[]) ∧ ∃ pn A' c', MdIs w' m gm F fc fs { M with l := M.l ++ [newGo N arg] } (ps ++ [pn]) A' c' (Bs ++ [(none, 0)]) ∧ Mv (gm :: (ob L).toList) w w' ∧ w.heap.size ≤ pn ∧ (ob A' = ob L ∨ ∃ b, ob A' = some b ∧ pn < b) := by
  have hdr : Below w.heap.size w w.drew := (Below.refl _ w).drew
  have hgL : ob L ≠ some gm := fun e => (h.ng.2 gm e).1 rfl
  have Q0 : ∀ w', SZ L w w' → w'.cell? ⟨q, 0, none⟩ = some (.pointer (some ⟨gd, 0, none⟩)) := fun w' h => h.cell hq hqL rfl
  have A0 : ∀ w', SZ L w w' → w'.cell? ⟨qa, 0, none⟩ = some (.int .i64 arg) := fun w' h => h.cell hqa haL rfl
  have D0 : ∀ w', SZ L w w' → w'.cell? ⟨gd, 0, none⟩ = some (.pointer (some ⟨gm, 0, none⟩)) := fun w' h => h.cell hd hdL hc0
  have D7 : ∀ w', SZ L w w' → w'.cell? ⟨gd, 7, none⟩ = some (.int .i64 N) := fun w' h => h.cell hd hdL hc7
  have G2 : ∀ w', SZ L w w' → w'.cell? ⟨gm, 2, none⟩ = some (.slice L ps.length c) := fun w' h' => h'.cell h.head hgL rfl
  have HD := Lib.hid (show SZ L w w.drew from Mv.of_below hdr (Nat.le_refl _))
  obtain ⟨i0, hi0, hz0, hz1, hz2⟩ := info_parts Tryd.infoPg
  have HI := Lib.hid hi0
  have HZ0 := Lib.hid hz0
  have HZ1 := Lib.hid hz1
  have HZ2 := Lib.hid hz2
  have HM := Lib.hid h
  have HGL := Lib.hid hgL
  have HFT := Lib.hid hfit
  have HFW := Lib.hid hfew
  have HBS := Lib.hid hs
  obtain ⟨n, HNN⟩ : ∃ n, Hid (n = ps.length) := ⟨_, Lib.hid rfl⟩
  have hn : n ≤ 100 := by rw [HNN.out, h.lp]; exact h.few
  rw [← HNN.out] at G2
  clear h hs hq hqa hd hc0 hc7 hdr hi0 hz0 hz1 hz2 hqL haL hdL hgL hfit hfew
  go_enter Tryd.func92, Tryd.ntmps92
  go_wp2_with fail
  refine region_schE (SZ L w) [([0, 1, 2, 3, 4, 5, 6, 7, 8, 9, 10, 11, 12, 13, 14, 15, 16], 17), ([18], 19), ([], 20), ([], 21)] [22, 23] 24 (by kernel_rfl) (by kernel_rfl) (by kernel_rfl) (fun _ _ d _ _ h => by cases d <;> exact h) HD.out ?_
  (try simp only [Act.put, List.setIfInBounds_toArray, List.set_cons_zero, List.set_cons_succ]); refine schE_seg ?_; simp only [pickOps, List.getElem?_toArray, List.getElem?_cons_zero, List.getElem?_cons_succ]; (repeat (first | go_big_quiet_skip | (go_big_quiet_want; first | (go_big_quiet_op; first | go_big_quiet_on | ((first | with_reducible refine ⟨_, fun _ _ => rfl, ?_⟩); go_big_quiet_on)) | (simp (contextual := true) [go_sem, Q0, A0, D0, D7, G2]; with_reducible refine ⟨_, fun _ _ => rfl, ?_⟩; go_big_quiet_on)))); refine wpQuiet_nil ?_
  clear Q0 A0 D0 D7 G2
  go_wp2_with (go_at_call 28; refine (vmNew_any N arg _).mono ?_; rintro e w1 ⟨rfl, hb1⟩)
  have HB1 := Lib.hid (show Mv [] w w1 from (Mv.of_below (Below.trans (Below.refl w.heap.size w).drew (hb1.mono (by exact Nat.le_refl _))) (Nat.le_refl _)))
  clear hb1
  refine ⟨SZ L w, HB1.out.mono (by simp), fun _ h => h, ?_⟩
  (try simp only [Act.put, List.setIfInBounds_toArray, List.set_cons_zero, List.set_cons_succ]); refine schE_seg ?_
  simp only [pickOps, List.getElem?_toArray, List.getElem?_cons_zero, List.getElem?_cons_succ]
  go_big_quiet_want
  simp (contextual := true) [go_sem, thArr]
  refine ⟨.agg (goArr (newGo N arg) none 0), fun _ _ => rfl, ?_⟩
  go_big_quiet_on
  refine wpQuiet_nil ?_
  go_wp2_with fail
  refine ⟨SZ L w, (HB1.out.trans (Mv.of_below ((Below.refl w1.heap.size w1).alloc (Nat.le_refl _) _) (Nat.le_refl _))).mono (by simp), fun _ h => h, ?_⟩
  (try simp only [Act.put, List.setIfInBounds_toArray, List.set_cons_zero, List.set_cons_succ]); refine schE_seg ?_; simp only [pickOps, List.getElem?_toArray, List.getElem?_cons_zero, List.getElem?_cons_succ]; (repeat (first | go_big_quiet_skip | (go_big_quiet_want; first | (go_big_quiet_op; first | go_big_quiet_on | ((first | with_reducible refine ⟨_, fun _ _ => rfl, ?_⟩); go_big_quiet_on)) | (simp (contextual := true) [go_sem, HD]; with_reducible refine ⟨_, fun _ _ => rfl, ?_⟩; go_big_quiet_on)))); refine wpQuiet_nil ?_
  obtain ⟨w2, HW2⟩ : ∃ w2, Hid (w2 = w1.alloc (.cells (goArr (newGo N arg) none 0) 68)) := ⟨_, Lib.hid rfl⟩
  have HZ := Lib.hid (show w2.heap.size = w1.heap.size + 1 by rw [HW2.out, World.size_alloc])
  obtain ⟨w3, HW3⟩ : ∃ w3, Hid (w3 = w2.alloc (.cells #[.pointer (some ⟨w1.heap.size, 0, none⟩)] 65)) := ⟨_, Lib.hid rfl⟩
  have HZW := Lib.hid (show w3.heap.size = w1.heap.size + 2 by rw [HW3.out, World.size_alloc, HZ.out])
  have HV2 := Lib.hid (show Mv [] w w2 by rw [HW2.out]; exact HB1.out.trans (Mv.of_below ((Below.refl w1.heap.size w1).alloc (Nat.le_refl _) _) (Nat.le_refl _)))
  have HV3 := Lib.hid (show Mv [] w w3 by rw [HW3.out]; exact HV2.out.trans (Mv.of_below ((Below.refl w2.heap.size w2).alloc (Nat.le_refl _) _) (Nat.le_refl _)))
  have HN2 := Lib.hid (show Blk w2 w1.heap.size 68 (goArr (newGo N arg) none 0) by rw [HW2.out]; exact Blk.new w1 _ _)
  have HN3 := Lib.hid (show Blk w3 w1.heap.size 68 (goArr (newGo N arg) none 0) by
    refine Mv.blk (L := []) ?_ HN2.out (by simp)
    rw [HW3.out]
    exact Mv.of_below ((Below.refl w2.heap.size w2).alloc (Nat.le_refl _) _) (Nat.le_refl _))
  have HC3 := Lib.hid (show Blk w3 (w1.heap.size + 1) 65 #[.pointer (some ⟨w1.heap.size, 0, none⟩)] by rw [HW3.out, ← HZ.out]; exact Blk.new w2 _ _)
  have HCX := Lib.hid (show ∀ j u, [Value.pointer (some ⟨w1.heap.size, 0, none⟩)][j]? = some u → w3.cell? ((⟨w1.heap.size + 1, 0, none⟩ : Addr).add j) = some u by
    intro j u hu
    rw [Addr.add_lit, Nat.zero_add, HC3.out.cell j]
    simpa using hu)
  have HO3 := Lib.hid (show Own w3 m 65 1 L n c (ps.map pptr) by rw [HNN.out]; exact own_mv HM.out.row HV3.out (by simp))
  have HBS3 := Lib.hid (show m ≤ w3.heap.size from Nat.le_trans HBS.out HV3.out.size)
  have H64 : Hid (n + 1 ≤ maxLen) := by unfold maxLen; show _ ≤ _; omega
  go_wp2_with fail
  rw [← HW2.out, ← HW3.out]
  refine ⟨SZ L w, HV3.out.mono (by simp), fun _ h => h, ?_⟩
  (try simp only [Act.put, List.setIfInBounds_toArray, List.set_cons_zero, List.set_cons_succ]); refine schE_seg ?_; simp only [pickOps, List.getElem?_toArray, List.getElem?_cons_zero, List.getElem?_cons_succ]; (repeat (first | go_big_quiet_skip | (go_big_quiet_want; first | (go_big_quiet_op; first | go_big_quiet_on | ((first | with_reducible refine ⟨_, fun _ _ => rfl, ?_⟩); go_big_quiet_on)) | (simp (contextual := true) [go_sem, HD]; with_reducible refine ⟨_, fun _ _ => rfl, ?_⟩; go_big_quiet_on)))); refine wpQuiet_nil ?_
  go_wp2_with (at_builtin; go_must (refine wpList_append_1 _ rfl _ _ 69 rfl m 65 i0 _ 1 8 Tryd.underlying69 HI.out HZ0.out HZ1.out HZ2.out rfl (by decide) L n c (ps.map pptr) rfl HO3.out ⟨w1.heap.size + 1, 0, none⟩ 1 [.pointer (some ⟨w1.heap.size, 0, none⟩)] rfl rfl HCX.out (by simp [Value.oneCell']) H64.out (by omega) HBS3.out ?_); intro A' c' w4 hown hgrow hat)
  have HV4 := Lib.hid (show SZ L w w4 from (HV3.out.mono (by simp)).trans (Mv.of_grown hgrow (by intro b hb; simp [hb])))
  have HO4 := Lib.hid (show Own w4 m 65 1 A' (ps.length + 1) c' (ps.map pptr ++ [pptr w1.heap.size]) by rw [← HNN.out]; exact hown)
  have hpl : ob L ≠ some w1.heap.size := fun e => by
    have h1 := (HM.out.row.lt _ e).2
    have h2 := HB1.out.size
    omega
  have HN4 := Lib.hid (show Blk w4 w1.heap.size 68 (goArr (newGo N arg) none 0) from Mv.blk (Mv.of_grown hgrow (L := (ob L).toList) (by intro b hb; simp [hb])) HN3.out (by rw [Option.mem_toList]; exact hpl))
  have HH4 := Lib.hid (Mv.blk HV4.out HM.out.head (by rw [Option.mem_toList]; exact HGL.out))
  have HAT := Lib.hid (show ob A' = ob L ∨ ∃ b, ob A' = some b ∧ w1.heap.size < b from hat.imp id (fun e => ⟨_, e, by rw [HZW.out]; omega⟩))
  clear hown hgrow hat hpl
  refine ⟨SZ L w, HV4.out, fun _ h => h, ?_⟩
  (try simp only [Act.put, List.setIfInBounds_toArray, List.set_cons_zero, List.set_cons_succ]); refine schE_last ?_; simp only [pickOps, List.getElem?_toArray, List.getElem?_cons_zero, List.getElem?_cons_succ]; (repeat (first | go_big_quiet_skip | (go_big_quiet_want; first | (go_big_quiet_op; first | go_big_quiet_on | ((first | with_reducible refine ⟨_, fun _ _ => rfl, ?_⟩); go_big_quiet_on)) | (simp (contextual := true) [go_sem, HD]; with_reducible refine ⟨_, fun _ _ => rfl, ?_⟩; go_big_quiet_on)))); refine wpQuiet_nil ?_
  have f2 := HH4.out.frozen 2
  have q2 : w4.cell? ⟨gm, 2, none⟩ = some (.slice L ps.length c) := (HH4.out.cell 2).trans rfl
  go_wp2_with fail
  have hv5 : Mv (gm :: (ob L).toList) w (w4.setCell ⟨gm, 2, none⟩ (.slice A' (n + 1) c')) := (HV4.out.mono (by intro k hk _; exact List.mem_cons_of_mem _ hk)).set _ _ (by simp)
  go_end0
  have hb5 := HH4.out.set_ 2 (.slice A' (n + 1) c')
  have hg5 : Mv [gm] w4 (w4.setCell ⟨gm, 2, none⟩ (.slice A' (n + 1) c')) := (Mv.refl _ _).set _ _ (by simp)
  have hgs := HM.out.head.lt
  have h1s := HB1.out.size
  refine ⟨rfl, w1.heap.size, A', c', ?_, hv5, h1s, HAT.out⟩
  refine HM.out.addGo HBS.out _ hv5 ?_ (own_mv HO4.out hg5 ?_) HAT.out h1s (hg5.blk HN4.out (by simp; omega)) rfl rfl HFT.out HFW.out
  · rw [← HNN.out]
    exact hb5
  · intro b hb
    rw [List.mem_singleton]
    intro e
    subst e
    rcases HAT.out with e | ⟨b2, e, h2⟩
    · exact HGL.out (e ▸ hb)
    · rw [e] at hb
      injection hb with hb
      omega
end
end Go.Proofs.YtkfpnppppmccdaaDoor
namespace Go.Proofs.YtkfpnppppmccdaaDoor
open Go.RowKit
/-- A deed was done: the model is M'. -/
def OldB (n : Nat) (Bs Bs' : List (Option Addr × Nat)) : Prop := ∀ p ∈ Bs', ∀ b, ob p.1 = some b → (∃ p0 ∈ Bs, ob p0.1 = some b) ∨ n ≤ b
theorem oldB_self (n : Nat) (Bs : List (Option Addr × Nat)) : OldB n Bs Bs := fun p hp _ hb => .inl ⟨p, hp, hb⟩
def DoneD (m gm : Nat) (F : Option Addr) (fc : Nat) (fs : List Fn) (M' : Md) (ps : List Nat) (L : Option Addr) (Bs : List (Option Addr × Nat)) (w2 w3 : World) : Prop :=
  ∃ ex L' c' Bs', MdIs w3 m gm F fc fs M' (ps ++ ex) L' c' Bs' ∧ (∀ x ∈ ex, w2.heap.size ≤ x) ∧ (ob L' = ob L ∨ ∃ b, ob L' = some b ∧ w2.heap.size ≤ b) ∧ Mv (gm :: (ps ++ (ob L).toList)) w2 w3 ∧ OldB w2.heap.size Bs Bs'
/-- A function of the program, with a body. -/
def goFn (P : Program) (f : Nat) : Bool := match P.funcs[f]? with
  | none => false
  | some fn => !(fn.name == "runtime.NumGoroutine") && fn.body.isSome
theorem run_goFn {f : Nat} (h : goFn Tryd.prog f = true) (args : Array Value) (w : World) : (callFunc f args).run Tryd.prog w = .ok (.enter f args) w := by
  unfold goFn at h
  cases hf : Tryd.prog.funcs[f]? with
  | none => rw [hf] at h; cases h
  | some fn =>
    rw [hf] at h
    simp only [Bool.and_eq_true, Bool.not_eq_true'] at h
    cases hb : fn.body with
    | none => rw [hb] at h; cases h.2
    | some cd =>
      have h1 : fn.name ≠ "runtime.NumGoroutine" := by simpa using h.1
      simp [callFunc, hf, h1, hb]
/-- A deed that was found: its answer, and what it is to do, at any later time. -/
def DeedOut (m gm : Nat) (F : Option Addr) (fc : Nat) (fs : List Fn) (ps : List Nat) (L : Option Addr) (Bs : List (Option Addr × Nat)) (w0 : World) (gd : Nat) (g : Int) (p : Nat) (i : Ins) (r : Int × Md) (w' : World) : Prop :=
  ∃ fid caps, goFn Tryd.prog fid = true ∧ Blk w' gd 92 (deedArr gm g p i r.1 fid caps) ∧ Below w0.heap.size w0 w' ∧ ∀ w2, Below w'.heap.size w' w2 → Calls Tryd.prog fid caps w2 fun e w3 => e = .returned (.tuple #[]) ∧ DoneD m gm F fc fs r.2 ps L Bs w2 w3
def suspP (M : Md) (k : Nat) (i : Ins) : Int × Md :=
  match otherP M k (regA (goAt M k) i) with
  | none => (-1, M)
  | some t => if (goAt M t).th.done = true then (0, M) else if (goAt M t).sus = true then (-1, M) else (1, { M with l := M.l.set t { goAt M t with sus := true } })
def resuP (M : Md) (k : Nat) (i : Ins) : Int × Md :=
  match getM M (regA (goAt M k) i) with
  | none => (0, M)
  | some t => if (goAt M t).sus = true then (1, { M with l := M.l.set t { goAt M t with sus := false } }) else (0, M)
def readyP (M : Md) (k : Nat) (i : Ins) : Int × Md :=
  match getM M (regA (goAt M k) i) with
  | none => (0, M)
  | some t => if (goAt M t).th.done = true then (0, M) else (1, { M with l := M.l.set t { goAt M t with tok := (goAt M t).tok || !(goAt M t).blk, blk := false } })
def spawnP (M : Md) (k : Nat) (i : Ins) : Int × Md :=
  if (M.l.length : Int) < M.gs then (M.l.length + 1, { M with l := M.l ++ [newGo i.n (regA (goAt M k) i)] }) else (-1, M)
def resizeP (M : Md) (g : Int) (k : Nat) (i : Ins) : Int × Md :=
  (if M.holder = g ∧ 1 ≤ regA (goAt M k) i ∧ regA (goAt M k) i ≤ 256 then 1 else 0, M)
def stopP (M : Md) (g : Int) : Int × Md := (0, { M with holder := g })
def startP (M : Md) (g : Int) : Int × Md := (0, if M.holder = g then { M with holder := 0, owner := 0 } else M)
def barrP (M : Md) (g : Int) : Int × Md := (0, if M.holder = g then M else { M with owner := 0 })
def blockP (M : Md) (g : Int) (k : Nat) : Int × Md := (0, if M.holder = g then M else { M with l := M.l.set k { goAt M k with blk := !(goAt M k).tok, tok := false } })
section
variable {w : World} {m gm : Nat} {F : Option Addr} {fc : Nat} {fs : List Fn} {M : Md} {ps : List Nat} {L : Option Addr} {c : Nat} {Bs : List (Option Addr × Nat)}
theorem MdIs.pl (h : MdIs w m gm F fc fs M ps L c Bs) : ∀ p ∈ ps, p < w.heap.size := by
  intro p hp
  obtain ⟨k, hk, rfl⟩ := List.mem_iff_getElem.1 hp
  exact (h.mem k (by have := h.lp; omega)).lt
theorem MdIs.Ll (h : MdIs w m gm F fc fs M ps L c Bs) : ∀ b, ob L = some b → b < w.heap.size := fun b hb => (h.row.lt b hb).2
theorem doneD_same {M' : Md} {w2 w3 : World} {Bs' : List (Option Addr × Nat)} {X : List Nat} (h : MdIs w3 m gm F fc fs M' ps L c Bs') (hm : Mv X w2 w3) (hX : ∀ x ∈ X, x = gm ∨ x ∈ ps) (hB : OldB w2.heap.size Bs Bs' := by first | exact oldB_self _ _ | (intro p hp b hb; rcases List.mem_or_eq_of_mem_set hp with hp | hp <;> first | exact .inl ⟨p, hp, hb⟩ | exact .inl ⟨_, List.getElem_mem _, hp ▸ hb⟩)) : DoneD m gm F fc fs M' ps L Bs w2 w3 :=
  ⟨[], L, c, Bs', by rw [List.append_nil]; exact h, by simp, .inl rfl, hm.mono (fun k hk _ => by
    rcases hX k hk with e | e
    · rw [e]; simp
    · simp [e]), hB⟩
theorem nothing_any (w : World) : Calls Tryd.prog 51 #[] w fun e w' => e = .returned (.tuple #[]) ∧ w = w' := by
  go_enter Tryd.func51, Tryd.ntmps51
  go_wp2_with fail
  go_end0
  exact ⟨rfl, rfl⟩
/-- Nothing is to be done. -/
theorem deed_nothing {w0 : World} (h : MdIs w0 m gm F fc fs M ps L c Bs) (hs : m ≤ w0.heap.size) {gd p : Nat} {g ans : Int} {i : Ins} (hd : Blk w gd 92 (deedArr gm g p i ans 51 #[])) (hB : Below w0.heap.size w0 w) : DeedOut m gm F fc fs ps L Bs w0 gd g p i (ans, M) w :=
  ⟨51, #[], by kernel_rfl, hd, hB, fun w2 h2 => (nothing_any w2).mono fun e w3 ⟨he, hw⟩ => ⟨he, by
    subst hw
    exact doneD_same (h.step (hB.trans (h2.mono hB.size)) hs) (Mv.refl [] _) (by simp)⟩⟩
/-- A function is to be called. -/
theorem deed_fn {w0 W : World} {gd p fid0 : Nat} {g a0 : Int} {i : Ins} {caps0 : Array Value} (hd : Blk W gd 92 (deedArr gm g p i a0 fid0 caps0)) (hB : Below w0.heap.size w0 W) (hg0 : w0.heap.size ≤ gd) (ans : Int) (fid : Nat) (caps : Array Value) {M' : Md} (hgf : goFn Tryd.prog fid = true)
    (hc : ∀ w2, Below w0.heap.size w0 w2 → (∀ q t cs, q ≠ gd → Blk W q t cs → Blk w2 q t cs) → Blk w2 gd 92 (deedArr gm g p i ans fid caps) → Calls Tryd.prog fid caps w2 fun e w3 => e = .returned (.tuple #[]) ∧ DoneD m gm F fc fs M' ps L Bs w2 w3) :
    DeedOut m gm F fc fs ps L Bs w0 gd g p i (ans, M') ((W.setCell ⟨gd, 8, none⟩ (.int .i64 ans)).setCell ⟨gd, 9, none⟩ (.func (.func fid) #[] caps)) := by
  have h8 : Blk ((W.setCell ⟨gd, 8, none⟩ (.int .i64 ans)).setCell ⟨gd, 9, none⟩ (.func (.func fid) #[] caps)) gd 92 (deedArr gm g p i ans fid caps) := (hd.set_ 8 _).set_ 9 _
  have hl : Below w0.heap.size w0 ((W.setCell ⟨gd, 8, none⟩ (.int .i64 ans)).setCell ⟨gd, 9, none⟩ (.func (.func fid) #[] caps)) := (hB.setCell (p := ⟨gd, 8, none⟩) hg0 _).setCell (p := ⟨gd, 9, none⟩) hg0 _
  refine ⟨fid, caps, hgf, h8, hl, fun w2 h2 => hc w2 (hl.trans (h2.mono hl.size)) (fun q t cs hq hb => ?_) (h8.below h2 h8.lt)⟩
  have h3 : Blk ((W.setCell ⟨gd, 8, none⟩ (.int .i64 ans)).setCell ⟨gd, 9, none⟩ (.func (.func fid) #[] caps)) q t cs := (hb.far (p := ⟨gd, 8, none⟩) hq _).far (p := ⟨gd, 9, none⟩) hq _
  exact h3.below h2 h3.lt
/-- The same, the answer as it was. -/
theorem deed_fn9 {w0 W : World} {gd p fid0 : Nat} {g ans : Int} {i : Ins} {caps0 : Array Value} (hd : Blk W gd 92 (deedArr gm g p i ans fid0 caps0)) (hB : Below w0.heap.size w0 W) (hg0 : w0.heap.size ≤ gd) (fid : Nat) (caps : Array Value) {M' : Md} (hgf : goFn Tryd.prog fid = true)
    (hc : ∀ w2, Below w0.heap.size w0 w2 → (∀ q t cs, q ≠ gd → Blk W q t cs → Blk w2 q t cs) → Blk w2 gd 92 (deedArr gm g p i ans fid caps) → Calls Tryd.prog fid caps w2 fun e w3 => e = .returned (.tuple #[]) ∧ DoneD m gm F fc fs M' ps L Bs w2 w3) :
    DeedOut m gm F fc fs ps L Bs w0 gd g p i (ans, M') (W.setCell ⟨gd, 9, none⟩ (.func (.func fid) #[] caps)) := by
  have h8 : Blk (W.setCell ⟨gd, 9, none⟩ (.func (.func fid) #[] caps)) gd 92 (deedArr gm g p i ans fid caps) := hd.set_ 9 _
  have hl : Below w0.heap.size w0 (W.setCell ⟨gd, 9, none⟩ (.func (.func fid) #[] caps)) := hB.setCell (p := ⟨gd, 9, none⟩) hg0 _
  refine ⟨fid, caps, hgf, h8, hl, fun w2 h2 => hc w2 (hl.trans (h2.mono hl.size)) (fun q t cs hq hb => ?_) (h8.below h2 h8.lt)⟩
  have h3 : Blk (W.setCell ⟨gd, 9, none⟩ (.func (.func fid) #[] caps)) q t cs := hb.far (p := ⟨gd, 9, none⟩) hq _
  exact h3.below h2 h3.lt
end
end Go.Proofs.YtkfpnppppmccdaaDoor
namespace Go.Proofs.YtkfpnppppmccdaaDoor
open Go.RowKit
theorem run_loadVar_cells {P : Program} (w : World) (g off : Nat) (ty : TypeId) (cs : Array Value) (d : TypeDesc) (hs : ∀ j v, cs[j]? = some v → w.cell? ⟨g, off + j, none⟩ = some v)
    (hu : P.underlying ty = some d) (hd : (match d with | .struct _ | .array _ _ => true | _ => false) = true) (hi : (P.info? ty).map (·.size) = some cs.size) :
    (loadVar ty ⟨g, off, none⟩).run P w = .ok (.agg cs) w := by
  have hl : (loadCells ⟨g, off, none⟩ cs.toList.length).run P w = .ok cs.toList.toArray w :=
    run_loadCells_list (P := P) w ⟨g, off, none⟩ cs.toList (fun j v hv => by
      rw [Addr.add_lit]
      exact hs j v (by simpa using hv))
  cases hq : P.info? ty with
  | none => simp [hq] at hi
  | some i =>
    have hsz : i.size = cs.size := by simpa [hq] using hi
    have hagg : (isAgg ty).run P w = .ok true w := by
      unfold isAgg
      rw [Sem.run_bind, run_underlying hu w]
      cases d <;> simp_all
    simp only [Array.length_toList, Array.toArray_toList] at hl
    simp [loadVar, Sem.run_bind, hagg, sizeOf, typeInfo, hq, hsz, hl]
theorem quiet_load_at {P : Program} {ops : Array Oper} {C : World → Prop} {Q : Act → Prop} {rest : List Oper} {o : Oper} {a : Act} (hw : Region.wanted o (yielded ops a.tmps) = true) (ty : TypeId) (x : Operand) (ho : o.op = .load ty x)
    (p : Addr) (hx : a.eval x = .pointer (some p)) (cs : Array Value) (hl : ∀ w, C w → (loadVar ty p).run P w = .ok (.agg cs) w) (h : wpQuiet P ops C Q rest (a.put o.dst (.agg cs))) : wpQuiet P ops C Q (o :: rest) a := by
  unfold wpQuiet
  rw [if_pos hw]
  refine ⟨.agg cs, fun w hC => ?_, h⟩
  unfold Oper.quietAt execOp
  simp only [ho, hx, Instr.loadAt, Instr.sureAddr, Sem.run_bind, Sem.run_pure, Result.andThen_ok, hl w hC]
  exact ⟨rfl, rfl⟩
theorem Tryd.infoIns5 (x0 x1 x2 x3 x4 : Value) : (Tryd.prog.info? 64).map (·.size) = some (#[x0, x1, x2, x3, x4] : Array Value).size := by kernel_rfl
theorem below_trans_drew {w : World} : Below w.heap.size w w.drew := (Below.refl _ w).drew
def gPtr (ps : List Nat) (o : Option Nat) : Option Addr := o.map fun k => ⟨ps.getD k 0, 0, none⟩
theorem gVal_ptr (ps : List Nat) (o : Option Nat) : gVal ps o = .pointer (gPtr ps o) := by cases o <;> rfl
section
variable {w : World} {m gm : Nat} {F : Option Addr} {fc : Nat} {fs : List Fn} {M : Md} {ps : List Nat} {L : Option Addr} {c : Nat} {Bs : List (Option Addr × Nat)}
/-- The cells of a deed. -/
theorem deed_cells {w : World} {gd gm p fid : Nat} {g ans : Int} {i : Ins} {caps : Array Value} (h : Blk w gd 92 (deedArr gm g p i ans fid caps)) :
    w.cell? ⟨gd, 0, none⟩ = some (.pointer (some ⟨gm, 0, none⟩)) ∧ w.cell? ⟨gd, 1, none⟩ = some (.int .i64 g) ∧ w.cell? ⟨gd, 2, none⟩ = some (.pointer (some ⟨p, 0, none⟩)) ∧ w.cell? ⟨gd, 4, none⟩ = some (.int .i64 i.a) ∧ w.cell? ⟨gd, 7, none⟩ = some (.int .i64 i.n) ∧ w.cell? ⟨gd, 8, none⟩ = some (.int .i64 ans) ∧ w.cell? ⟨gd, 9, none⟩ = some (.func (.func fid) #[] caps) ∧ (∀ j v, (insArr i)[j]? = some v → w.cell? ⟨gd, 3 + j, none⟩ = some v) := by
  refine ⟨(h.cell 0).trans rfl, (h.cell 1).trans rfl, (h.cell 2).trans rfl, (h.cell 4).trans rfl, (h.cell 7).trans rfl, (h.cell 8).trans rfl, (h.cell 9).trans rfl, fun j v hv => (h.cell (3 + j)).trans ?_⟩
  rw [← hv]
  match j with
  | 0 => rfl
  | 1 => rfl
  | 2 => rfl
  | 3 => rfl
  | 4 => rfl
  | j + 5 =>
    have := (Array.getElem?_eq_some_iff.1 hv).1
    have h5 : (insArr i).size = 5 := rfl
    omega
set_option maxRecDepth 10000 in
set_option maxHeartbeats 2000000 in
theorem suspend_any {w0 : World} (h : MdIs w0 m gm F fc fs M ps L c Bs) (hs : m ≤ w0.heap.size) {k p gd : Nat} (hk : k < M.l.length) (hp : ps[k]? = some p) (g : Int) (i : Ins) (a : Nat) (ha : i.a = a) (ha8 : a < 8) (hd : Blk w gd 92 (deedArr gm g p i 0 51 #[])) (hg0 : w0.heap.size ≤ gd) (hB : Below w0.heap.size w0 w) :
    Calls Tryd.prog 68 #[.pointer (some ⟨gd, 0, none⟩)] w fun e w' => e = .returned (.tuple #[]) ∧ DeedOut m gm F fc fs ps L Bs w0 gd g p i (suspP M k i) w' := by
  obtain ⟨d0, d1, d2, -, -, -, -, d3⟩ := deed_cells hd
  have G0 : ∀ w', SB27 w w' → w'.cell? ⟨gd, 0, none⟩ = some (.pointer (some ⟨gm, 0, none⟩)) := fun w' h => h.cell hd rfl
  have G1 : ∀ w', SB27 w w' → w'.cell? ⟨gd, 1, none⟩ = some (.int .i64 g) := fun w' h => h.cell hd rfl
  have G2 : ∀ w', SB27 w w' → w'.cell? ⟨gd, 2, none⟩ = some (.pointer (some ⟨p, 0, none⟩)) := fun w' h => h.cell hd rfl
  have LI : ∀ w', SB27 w w' → (loadVar 64 ⟨gd, 3, none⟩).run Tryd.prog w' = .ok (.agg (insArr i)) w' := fun w' h => run_loadVar_cells w' gd 3 _ _ _ (deed_cells (Blk.below hd h hd.lt)).2.2.2.2.2.2.2 Tryd.underlying64 rfl (Tryd.infoIns5 _ _ _ _ _)
  have HO := Lib.hid (fun (W : World) (hW : Below w.heap.size w W) => other_any (h.step (hB.trans (hW.mono hB.size)) hs) (Nat.le_trans hs (Nat.le_trans hB.size hW.size)) g hk hp i a ha ha8)
  simp only [gVal_ptr] at HO
  obtain ⟨tv, HV⟩ : ∃ tv, Hid (tv = gPtr ps (otherP M k (regA (goAt M k) i))) := ⟨_, Lib.hid rfl⟩
  simp only [← HV.out] at HO
  have HD := Lib.hid (show SB27 w w.drew from (Below.refl _ w).drew)
  have HW0 := Lib.hid hB
  have HBD := Lib.hid hd
  have HM := Lib.hid h
  have HS := Lib.hid hs
  have HG0 := Lib.hid hg0
  have HKP := Lib.hid (And.intro hk hp)
  have HI := Lib.hid (And.intro ha ha8)
  clear h hs hk hp ha ha8 hd hg0 hB d0 d1 d2 d3
  have hsf : ∀ (a : Addr) (fn : Go.Fn) (first cap : Array Value) (md : Mode) (w : World), (store a (.func fn first cap) md).run Tryd.prog w = stored Tryd.prog w a (.func fn first cap) md := fun a fn first cap md w => run_store Tryd.prog w a _ md rfl
  go_enter Tryd.func68, Tryd.ntmps68
  go_wp2_with fail
  refine region_tree (SB27 w) (.two [0, 1, 2, 3, 4, 5, 6, 7, 8, 9, 10, 11, 12, 13, 14, 15] 16 (.one [] 17 (.one [] 18 (.fin []))) 17 (.one [] 16 (.one [] 18 (.fin [])))) (by kernel_rfl) (by kernel_rfl) (by kernel_rfl) (fun _ _ d _ _ h => by cases d <;> exact h) HD.out ?_
  (try simp only [Act.put, List.setIfInBounds_toArray, List.set_cons_zero, List.set_cons_succ]); refine tree_two ?_; simp only [pickOps, List.getElem?_toArray, List.getElem?_cons_zero, List.getElem?_cons_succ]; (repeat (first | (refine quiet_load_at (by rfl) 64 _ rfl ⟨gd, 3, none⟩ rfl (insArr i) LI ?_; simp only [Act.put, List.setIfInBounds_toArray, List.set_cons_zero, List.set_cons_succ]) | go_big_quiet_skip | (go_big_quiet_want; first | (go_big_quiet_op; first | go_big_quiet_on | ((first | with_reducible refine ⟨_, fun _ _ => rfl, ?_⟩); go_big_quiet_on)) | (simp (contextual := true) [go_sem, G0, G1, G2]; with_reducible refine ⟨_, fun _ _ => rfl, ?_⟩; go_big_quiet_on)))); refine wpQuiet_nil ?_
  clear G0 G1 G2 LI
  refine ⟨?_, ?_⟩
  · go_wp2_with (go_at_call 50; refine (HO.out _ HD.out).mono ?_; rintro e w1 ⟨rfl, hb1⟩)
    have HB1 := Lib.hid (show SB27 w w1 from HD.out.trans (hb1.mono HD.out.size))
    clear hb1
    refine ⟨SB27 w, HB1.out, fun _ h => h, ?_⟩
    (try simp only [Act.put, List.setIfInBounds_toArray, List.set_cons_zero, List.set_cons_succ]); refine tree_one ?_; simp only [pickOps, List.getElem?_toArray, List.getElem?_cons_zero, List.getElem?_cons_succ]; (repeat (first | go_big_quiet_skip | (go_big_quiet_want; first | (go_big_quiet_op; first | go_big_quiet_on | ((first | with_reducible refine ⟨_, fun _ _ => rfl, ?_⟩); go_big_quiet_on)) | (simp (contextual := true) [go_sem, HD]; with_reducible refine ⟨_, fun _ _ => rfl, ?_⟩; go_big_quiet_on)))); refine wpQuiet_nil ?_
    go_wp2_with fail
    refine ⟨SB27 w, HB1.out.alloc HB1.out.size _, fun _ h => h, ?_⟩
    (try simp only [Act.put, List.setIfInBounds_toArray, List.set_cons_zero, List.set_cons_succ]); refine tree_one ?_; simp only [pickOps, List.getElem?_toArray, List.getElem?_cons_zero, List.getElem?_cons_succ]; (repeat (first | go_big_quiet_skip | (go_big_quiet_want; first | (go_big_quiet_op; first | go_big_quiet_on | ((first | with_reducible refine ⟨_, fun _ _ => rfl, ?_⟩); go_big_quiet_on)) | (simp (contextual := true) [go_sem, HD]; with_reducible refine ⟨_, fun _ _ => rfl, ?_⟩; go_big_quiet_on)))); refine wpQuiet_nil ?_
    go_wp2_with fail
    have HQ := Lib.hid (Blk.new w1 65 #[.pointer tv])
    have HB2 := Lib.hid (show SB27 w (w1.alloc (.cells #[.pointer tv] 65)) from HB1.out.alloc HB1.out.size _)
    obtain ⟨W, HW⟩ : ∃ W, Hid (W = w1.alloc (.cells #[.pointer tv] 65)) := ⟨_, Lib.hid rfl⟩
    obtain ⟨q, HQE⟩ : ∃ q, Hid (q = w1.heap.size) := ⟨_, Lib.hid rfl⟩
    have HQL := Lib.hid (show w.heap.size ≤ q by rw [HQE.out]; exact HB1.out.size)
    rw [← HW.out, ← HQE.out] at HQ
    rw [← HW.out] at HB2
    rw [← HW.out, ← HQE.out]
    refine ⟨SB27 w, HB2.out, fun _ h => h, ?_⟩
    (try simp only [Act.put, List.setIfInBounds_toArray, List.set_cons_zero, List.set_cons_succ]); refine tree_fin ?_; simp only [pickOps]; (repeat (first | go_big_quiet_skip | (go_big_quiet_want; first | (go_big_quiet_op; first | go_big_quiet_on | ((first | with_reducible refine ⟨_, fun _ _ => rfl, ?_⟩); go_big_quiet_on)) | (simp (contextual := true) [go_sem, HD]; with_reducible refine ⟨_, fun _ _ => rfl, ?_⟩; go_big_quiet_on)))); refine wpQuiet_nil ?_
    clear HW HQE HB1 HO HD
    have hbd := Blk.below HBD.out HB2.out HBD.out.lt
    have HBW := Lib.hid (HW0.out.trans (HB2.out.mono HW0.out.size))
    have HD2 := Lib.hid hbd
    obtain ⟨-, -, -, -, -, d8, d9, -⟩ := deed_cells hbd
    have f8 := hbd.frozen 8
    have f9 := hbd.frozen 9
    have q0 : W.cell? ⟨q, 0, none⟩ = some (.pointer tv) := (HQ.out.cell 0).trans rfl
    clear hbd
    cases ho : otherP M k (regA (goAt M k) i) with
    | none =>
      have htv : tv = none := by rw [HV.out, ho]; rfl
      subst htv
      have HP := Lib.hid (show suspP M k i = (-1, M) by unfold suspP; rw [ho])
      clear ho HV
      go_wp2_with fail
      go_end0
      refine ⟨rfl, ?_⟩
      rw [HP.out]
      exact deed_nothing HM.out HS.out (HD2.out.set_ 8 (.int .i64 (-1))) (HBW.out.setCell (p := ⟨gd, 8, none⟩) HG0.out _)
    | some t =>
      have ht := otherP_lt ho
      obtain ⟨pt, hpt, hpv, hc⟩ := (HM.out.step HBW.out HS.out).go ht
      have htv : tv = some ⟨pt, 0, none⟩ := by
        have := gVal_ptr ps (some t)
        rw [hpv] at this
        injection this with this
        rw [HV.out, ho, this]
      subst htv
      have HT := Lib.hid (And.intro ht hpt)
      have cd := hc.done
      have cs := hc.sus
      cases hdn : (goAt M t).th.done with
      | true =>
        rw [hdn] at cd
        have HP := Lib.hid (show suspP M k i = (0, M) by unfold suspP; rw [ho]; simp only; rw [if_pos hdn])
        clear ho HV hpt hpv hc hdn ht
        go_wp2_with fail
        go_end0
        refine ⟨rfl, ?_⟩
        rw [HP.out]
        exact deed_nothing HM.out HS.out HD2.out HBW.out
      | false =>
        rw [hdn] at cd
        cases hsu : (goAt M t).sus with
        | true =>
          rw [hsu] at cs
          have HP := Lib.hid (show suspP M k i = (-1, M) by unfold suspP; rw [ho]; simp only; rw [if_neg (by rw [hdn]; decide), if_pos hsu])
          clear ho HV hpt hpv hc hdn ht hsu
          go_wp2_with fail
          go_end0
          refine ⟨rfl, ?_⟩
          rw [HP.out]
          exact deed_nothing HM.out HS.out (HD2.out.set_ 8 (.int .i64 (-1))) (HBW.out.setCell (p := ⟨gd, 8, none⟩) HG0.out _)
        | false =>
          rw [hsu] at cs
          have HP := Lib.hid (show suspP M k i = (1, { M with l := M.l.set t { goAt M t with sus := true } }) by unfold suspP; rw [ho]; simp only; rw [if_neg (by rw [hdn]; decide), if_neg (by rw [hsu]; decide)])
          clear ho HV hpt hpv hc hdn ht hsu
          go_wp2_with fail
          go_end0
          refine ⟨rfl, ?_⟩
          rw [HP.out]
          refine deed_fn HD2.out HBW.out HG0.out 1 89 #[.pointer (some ⟨q, 0, none⟩)] (by kernel_rfl) fun w2 h2 hk2 _ => ?_
          have hz := HBD.out.lt
          have hz2 := HQL.out
          refine (susp1_any (HM.out.step h2 HS.out) (Nat.le_trans HS.out h2.size) HT.out.1 HT.out.2 (hk2 q _ _ (by omega) HQ.out)).mono ?_
          rintro e w3 ⟨he, hM3, hv⟩
          exact ⟨he, doneD_same hM3 hv (fun x hx => .inr (by rw [List.mem_singleton] at hx; rw [hx]; exact List.mem_of_getElem? HT.out.2))⟩
  · go_wp2_with fail
    have HBA := Lib.hid (show SB27 w (w.alloc (.cells #[.pointer none] 65)).drew from ((Below.refl w.heap.size w).alloc (Nat.le_refl _) _).drew)
    have HQA := Lib.hid (Blk.new w 65 #[.pointer none]).drew
    obtain ⟨wA, HWA⟩ : ∃ W, Hid (W = (w.alloc (.cells #[.pointer none] 65)).drew) := ⟨_, Lib.hid rfl⟩
    obtain ⟨q, HQE⟩ : ∃ q, Hid (q = w.heap.size) := ⟨_, Lib.hid rfl⟩
    have HQL := Lib.hid (show w.heap.size ≤ q by rw [HQE.out]; exact Nat.le_refl _)
    rw [← HWA.out, ← HQE.out] at HQA
    rw [← HWA.out] at HBA
    rw [← HWA.out, ← HQE.out]
    refine ⟨SB27 w, HBA.out, fun _ h => h, ?_⟩
    (try simp only [Act.put, List.setIfInBounds_toArray, List.set_cons_zero, List.set_cons_succ]); refine tree_one ?_; simp only [pickOps, List.getElem?_toArray, List.getElem?_cons_zero, List.getElem?_cons_succ]; (repeat (first | go_big_quiet_skip | (go_big_quiet_want; first | (go_big_quiet_op; first | go_big_quiet_on | ((first | with_reducible refine ⟨_, fun _ _ => rfl, ?_⟩); go_big_quiet_on)) | (simp (contextual := true) [go_sem, HD]; with_reducible refine ⟨_, fun _ _ => rfl, ?_⟩; go_big_quiet_on)))); refine wpQuiet_nil ?_
    go_wp2_with (go_at_call 50; refine (HO.out _ HBA.out).mono ?_; rintro e w1 ⟨rfl, hb1⟩)
    have HQ1 := Lib.hid (HQA.out.below hb1 HQA.out.lt)
    have HB1 := Lib.hid (show SB27 w w1 from HBA.out.trans (hb1.mono HBA.out.size))
    have q0 : w1.cell? ⟨q, 0, none⟩ = some (.pointer none) := (HQ1.out.cell 0).trans rfl
    have f0 := HQ1.out.frozen 0
    clear hb1
    refine ⟨SB27 w, HB1.out, fun _ h => h, ?_⟩
    (try simp only [Act.put, List.setIfInBounds_toArray, List.set_cons_zero, List.set_cons_succ]); refine tree_one ?_; simp only [pickOps, List.getElem?_toArray, List.getElem?_cons_zero, List.getElem?_cons_succ]; (repeat (first | go_big_quiet_skip | (go_big_quiet_want; first | (go_big_quiet_op; first | go_big_quiet_on | ((first | with_reducible refine ⟨_, fun _ _ => rfl, ?_⟩); go_big_quiet_on)) | (simp (contextual := true) [go_sem, HD]; with_reducible refine ⟨_, fun _ _ => rfl, ?_⟩; go_big_quiet_on)))); refine wpQuiet_nil ?_
    go_wp2_with fail
    have HQ := Lib.hid (show Blk (w1.setCell ⟨q, 0, none⟩ (.pointer tv)) q 65 #[.pointer tv] from HQ1.out.set_ 0 _)
    have HB2 := Lib.hid (show SB27 w (w1.setCell ⟨q, 0, none⟩ (.pointer tv)) from HB1.out.setCell (p := ⟨q, 0, none⟩) HQL.out _)
    obtain ⟨W, HW⟩ : ∃ W, Hid (W = w1.setCell ⟨q, 0, none⟩ (.pointer tv)) := ⟨_, Lib.hid rfl⟩
    rw [← HW.out] at HQ HB2 ⊢
    refine ⟨SB27 w, HB2.out, fun _ h => h, ?_⟩
    (try simp only [Act.put, List.setIfInBounds_toArray, List.set_cons_zero, List.set_cons_succ]); refine tree_fin ?_; simp only [pickOps]; (repeat (first | go_big_quiet_skip | (go_big_quiet_want; first | (go_big_quiet_op; first | go_big_quiet_on | ((first | with_reducible refine ⟨_, fun _ _ => rfl, ?_⟩); go_big_quiet_on)) | (simp (contextual := true) [go_sem, HD]; with_reducible refine ⟨_, fun _ _ => rfl, ?_⟩; go_big_quiet_on)))); refine wpQuiet_nil ?_
    clear HW HQE HB1 HO HD HQ1 q0 f0 HQA HBA HWA
    have hbd := Blk.below HBD.out HB2.out HBD.out.lt
    have HBW := Lib.hid (HW0.out.trans (HB2.out.mono HW0.out.size))
    have HD2 := Lib.hid hbd
    obtain ⟨-, -, -, -, -, d8, d9, -⟩ := deed_cells hbd
    have f8 := hbd.frozen 8
    have f9 := hbd.frozen 9
    have q0 : W.cell? ⟨q, 0, none⟩ = some (.pointer tv) := (HQ.out.cell 0).trans rfl
    clear hbd
    cases ho : otherP M k (regA (goAt M k) i) with
    | none =>
      have htv : tv = none := by rw [HV.out, ho]; rfl
      subst htv
      have HP := Lib.hid (show suspP M k i = (-1, M) by unfold suspP; rw [ho])
      clear ho HV
      go_wp2_with fail
      go_end0
      refine ⟨rfl, ?_⟩
      rw [HP.out]
      exact deed_nothing HM.out HS.out (HD2.out.set_ 8 (.int .i64 (-1))) (HBW.out.setCell (p := ⟨gd, 8, none⟩) HG0.out _)
    | some t =>
      have ht := otherP_lt ho
      obtain ⟨pt, hpt, hpv, hc⟩ := (HM.out.step HBW.out HS.out).go ht
      have htv : tv = some ⟨pt, 0, none⟩ := by
        have := gVal_ptr ps (some t)
        rw [hpv] at this
        injection this with this
        rw [HV.out, ho, this]
      subst htv
      have HT := Lib.hid (And.intro ht hpt)
      have cd := hc.done
      have cs := hc.sus
      cases hdn : (goAt M t).th.done with
      | true =>
        rw [hdn] at cd
        have HP := Lib.hid (show suspP M k i = (0, M) by unfold suspP; rw [ho]; simp only; rw [if_pos hdn])
        clear ho HV hpt hpv hc hdn ht
        go_wp2_with fail
        go_end0
        refine ⟨rfl, ?_⟩
        rw [HP.out]
        exact deed_nothing HM.out HS.out HD2.out HBW.out
      | false =>
        rw [hdn] at cd
        cases hsu : (goAt M t).sus with
        | true =>
          rw [hsu] at cs
          have HP := Lib.hid (show suspP M k i = (-1, M) by unfold suspP; rw [ho]; simp only; rw [if_neg (by rw [hdn]; decide), if_pos hsu])
          clear ho HV hpt hpv hc hdn ht hsu
          go_wp2_with fail
          go_end0
          refine ⟨rfl, ?_⟩
          rw [HP.out]
          exact deed_nothing HM.out HS.out (HD2.out.set_ 8 (.int .i64 (-1))) (HBW.out.setCell (p := ⟨gd, 8, none⟩) HG0.out _)
        | false =>
          rw [hsu] at cs
          have HP := Lib.hid (show suspP M k i = (1, { M with l := M.l.set t { goAt M t with sus := true } }) by unfold suspP; rw [ho]; simp only; rw [if_neg (by rw [hdn]; decide), if_neg (by rw [hsu]; decide)])
          clear ho HV hpt hpv hc hdn ht hsu
          go_wp2_with fail
          go_end0
          refine ⟨rfl, ?_⟩
          rw [HP.out]
          refine deed_fn HD2.out HBW.out HG0.out 1 89 #[.pointer (some ⟨q, 0, none⟩)] (by kernel_rfl) fun w2 h2 hk2 _ => ?_
          have hz := HBD.out.lt
          have hz2 := HQL.out
          refine (susp1_any (HM.out.step h2 HS.out) (Nat.le_trans HS.out h2.size) HT.out.1 HT.out.2 (hk2 q _ _ (by omega) HQ.out)).mono ?_
          rintro e w3 ⟨he, hM3, hv⟩
          exact ⟨he, doneD_same hM3 hv (fun x hx => .inr (by rw [List.mem_singleton] at hx; rw [hx]; exact List.mem_of_getElem? HT.out.2))⟩
end
end Go.Proofs.YtkfpnppppmccdaaDoor
namespace Go.Proofs.YtkfpnppppmccdaaDoor
open Go.RowKit
section
variable {w : World} {m gm : Nat} {F : Option Addr} {fc : Nat} {fs : List Fn} {M : Md} {ps : List Nat} {L : Option Addr} {c : Nat} {Bs : List (Option Addr × Nat)}
set_option maxRecDepth 10000 in
set_option maxHeartbeats 2000000 in
theorem ready_any {w0 : World} (h : MdIs w0 m gm F fc fs M ps L c Bs) (hs : m ≤ w0.heap.size) {k p gd : Nat} (hk : k < M.l.length) (hp : ps[k]? = some p) (g : Int) (i : Ins) (a : Nat) (ha : i.a = a) (ha8 : a < 8) (hd : Blk w gd 92 (deedArr gm g p i 0 51 #[])) (hg0 : w0.heap.size ≤ gd) (hB : Below w0.heap.size w0 w) :
    Calls Tryd.prog 70 #[.pointer (some ⟨gd, 0, none⟩)] w fun e w' => e = .returned (.tuple #[]) ∧ DeedOut m gm F fc fs ps L Bs w0 gd g p i (readyP M k i) w' := by
  have G0 : ∀ w', SB27 w w' → w'.cell? ⟨gd, 0, none⟩ = some (.pointer (some ⟨gm, 0, none⟩)) := fun w' h => h.cell hd rfl
  have G2 : ∀ w', SB27 w w' → w'.cell? ⟨gd, 2, none⟩ = some (.pointer (some ⟨p, 0, none⟩)) := fun w' h => h.cell hd rfl
  have G4 : ∀ w', SB27 w w' → w'.cell? ⟨gd, 4, none⟩ = some (.int .i64 (a : Int)) := fun w' h => by rw [← ha]; exact h.cell hd rfl
  obtain ⟨r, HR⟩ : ∃ r, Hid (r = regA (goAt M k) i) := ⟨_, Lib.hid rfl⟩
  have GR : ∀ w', SB27 w w' → w'.cell? ⟨p, 2 + a, none⟩ = some (.int .i64 r) := fun w' hw => by
    obtain ⟨B, d, hb, hr⟩ := (h.step (hB.trans (Below.mono hw hB.size)) hs).blkAt hk hp
    rw [(go_cells hb hr).reg a ha8, HR.out]
    unfold regA
    rw [ha]
    rfl
  have HO := Lib.hid (fun (W : World) (hW : Below w.heap.size w W) => get_any (h.step (hB.trans (hW.mono hB.size)) hs) r)
  simp only [gVal_ptr] at HO
  obtain ⟨tv, HV⟩ : ∃ tv, Hid (tv = gPtr ps (getM M r)) := ⟨_, Lib.hid rfl⟩
  simp only [← HV.out] at HO
  have HD := Lib.hid (show SB27 w w.drew from (Below.refl _ w).drew)
  have HW0 := Lib.hid hB
  have HBD := Lib.hid hd
  have HM := Lib.hid h
  have HS := Lib.hid hs
  have HG0 := Lib.hid hg0
  clear h hs hk hp ha hd hg0 hB
  have hsf : ∀ (a : Addr) (fn : Go.Fn) (first cap : Array Value) (md : Mode) (w : World), (store a (.func fn first cap) md).run Tryd.prog w = stored Tryd.prog w a (.func fn first cap) md := fun a fn first cap md w => run_store Tryd.prog w a _ md rfl
  have ha9 : (a : Int) < 8 := by omega
  have ha0 : (0 : Int) ≤ a := by omega
  go_enter Tryd.func70, Tryd.ntmps70
  go_wp2_with fail
  refine region_tree (SB27 w) (.two [0, 1, 2, 3, 4, 5, 6, 7, 8, 9, 10, 11, 12, 13, 14, 15, 16, 17] 18 (.one [] 19 (.one [] 20 (.fin []))) 19 (.one [] 18 (.one [] 20 (.fin [])))) (by kernel_rfl) (by kernel_rfl) (by kernel_rfl) (fun _ _ d _ _ h => by cases d <;> exact h) HD.out ?_
  (try simp only [Act.put, List.setIfInBounds_toArray, List.set_cons_zero, List.set_cons_succ]); refine tree_two ?_; simp only [pickOps, List.getElem?_toArray, List.getElem?_cons_zero, List.getElem?_cons_succ]; (repeat (first | go_big_quiet_skip | (go_big_quiet_want; first | (go_big_quiet_op; first | go_big_quiet_on | ((first | with_reducible refine ⟨_, fun _ _ => rfl, ?_⟩); go_big_quiet_on)) | (simp (contextual := true) [go_sem, G0, G2, G4, GR]; with_reducible refine ⟨_, fun _ _ => rfl, ?_⟩; go_big_quiet_on)))); refine wpQuiet_nil ?_
  clear G0 G2 G4 GR ha9 ha0 ha8
  refine ⟨?_, ?_⟩
  · go_wp2_with (go_at_call 35; refine (HO.out _ HD.out).mono ?_; rintro e w1 ⟨rfl, rfl⟩)
    refine ⟨SB27 w, HD.out, fun _ h => h, ?_⟩
    (try simp only [Act.put, List.setIfInBounds_toArray, List.set_cons_zero, List.set_cons_succ]); refine tree_one ?_; simp only [pickOps, List.getElem?_toArray, List.getElem?_cons_zero, List.getElem?_cons_succ]; (repeat (first | go_big_quiet_skip | (go_big_quiet_want; first | (go_big_quiet_op; first | go_big_quiet_on | ((first | with_reducible refine ⟨_, fun _ _ => rfl, ?_⟩); go_big_quiet_on)) | (simp (contextual := true) [go_sem, HD]; with_reducible refine ⟨_, fun _ _ => rfl, ?_⟩; go_big_quiet_on)))); refine wpQuiet_nil ?_
    go_wp2_with fail
    refine ⟨SB27 w, HD.out.alloc HD.out.size _, fun _ h => h, ?_⟩
    (try simp only [Act.put, List.setIfInBounds_toArray, List.set_cons_zero, List.set_cons_succ]); refine tree_one ?_; simp only [pickOps, List.getElem?_toArray, List.getElem?_cons_zero, List.getElem?_cons_succ]; (repeat (first | go_big_quiet_skip | (go_big_quiet_want; first | (go_big_quiet_op; first | go_big_quiet_on | ((first | with_reducible refine ⟨_, fun _ _ => rfl, ?_⟩); go_big_quiet_on)) | (simp (contextual := true) [go_sem, HD]; with_reducible refine ⟨_, fun _ _ => rfl, ?_⟩; go_big_quiet_on)))); refine wpQuiet_nil ?_
    go_wp2_with fail
    have HQ := Lib.hid ((Blk.new w 65 #[.pointer tv]).drew)
    have HB2 := Lib.hid (show SB27 w (w.alloc (.cells #[.pointer tv] 65)).drew from ((Below.refl w.heap.size w).alloc (Nat.le_refl _) _).drew)
    obtain ⟨W, HW⟩ : ∃ W, Hid (W = (w.alloc (.cells #[.pointer tv] 65)).drew) := ⟨_, Lib.hid rfl⟩
    obtain ⟨q, HQE⟩ : ∃ q, Hid (q = w.heap.size) := ⟨_, Lib.hid rfl⟩
    have HQL := Lib.hid (show w.heap.size ≤ q by rw [HQE.out]; exact Nat.le_refl _)
    rw [← HW.out, ← HQE.out] at HQ
    rw [← HW.out] at HB2
    rw [← HW.out, ← HQE.out]
    refine ⟨SB27 w, HB2.out, fun _ h => h, ?_⟩
    (try simp only [Act.put, List.setIfInBounds_toArray, List.set_cons_zero, List.set_cons_succ]); refine tree_fin ?_; simp only [pickOps]; (repeat (first | go_big_quiet_skip | (go_big_quiet_want; first | (go_big_quiet_op; first | go_big_quiet_on | ((first | with_reducible refine ⟨_, fun _ _ => rfl, ?_⟩); go_big_quiet_on)) | (simp (contextual := true) [go_sem, HD]; with_reducible refine ⟨_, fun _ _ => rfl, ?_⟩; go_big_quiet_on)))); refine wpQuiet_nil ?_
    clear HW HQE HO HD
    have hbd := Blk.below HBD.out HB2.out HBD.out.lt
    have HBW := Lib.hid (HW0.out.trans (HB2.out.mono HW0.out.size))
    have HD2 := Lib.hid hbd
    obtain ⟨-, -, -, -, -, d8, d9, -⟩ := deed_cells hbd
    have f8 := hbd.frozen 8
    have f9 := hbd.frozen 9
    have q0 : W.cell? ⟨q, 0, none⟩ = some (.pointer tv) := (HQ.out.cell 0).trans rfl
    clear hbd
    cases ho : getM M r with
    | none =>
      have htv : tv = none := by rw [HV.out, ho]; rfl
      subst htv
      have HP := Lib.hid (show readyP M k i = (0, M) by unfold readyP; rw [← HR.out, ho])
      clear ho HV
      go_wp2_with fail
      refine bodyPost_ret (results_none rfl _ _ _) rfl ?_
      refine ⟨rfl, ?_⟩
      rw [HP.out]
      exact deed_nothing HM.out HS.out HD2.out HBW.out
    | some t =>
      have ht := (getM_lt ho).1
      obtain ⟨pt, hpt, hpv, hc⟩ := (HM.out.step HBW.out HS.out).go ht
      have htv : tv = some ⟨pt, 0, none⟩ := by
        have := gVal_ptr ps (some t)
        rw [hpv] at this
        injection this with this
        rw [HV.out, ho, this]
      subst htv
      have HT := Lib.hid (And.intro ht hpt)
      have cs := hc.done
      cases hsu : (goAt M t).th.done with
      | true =>
        rw [hsu] at cs
        have HP := Lib.hid (show readyP M k i = (0, M) by unfold readyP; rw [← HR.out, ho]; simp only; rw [if_pos hsu])
        clear ho HV hpt hpv hc ht hsu
        go_wp2_with fail
        refine bodyPost_ret (results_none rfl _ _ _) rfl ?_
        refine ⟨rfl, ?_⟩
        rw [HP.out]
        exact deed_nothing HM.out HS.out HD2.out HBW.out
      | false =>
        rw [hsu] at cs
        have HP := Lib.hid (show readyP M k i = (1, { M with l := M.l.set t { goAt M t with tok := (goAt M t).tok || !(goAt M t).blk, blk := false } }) by unfold readyP; rw [← HR.out, ho]; simp only; rw [if_neg (by rw [hsu]; decide)])
        clear ho HV hpt hpv hc ht hsu
        go_wp2_with fail
        go_end0
        refine ⟨rfl, ?_⟩
        rw [HP.out]
        refine deed_fn HD2.out HBW.out HG0.out 1 91 #[.pointer (some ⟨q, 0, none⟩)] (by kernel_rfl) fun w2 h2 hk2 _ => ?_
        have hz := HBD.out.lt
        have hz2 := HQL.out
        refine (ready1_any (HM.out.step h2 HS.out) (Nat.le_trans HS.out h2.size) HT.out.1 HT.out.2 (hk2 q _ _ (by omega) HQ.out)).mono ?_
        rintro e w3 ⟨he, hM3, hv⟩
        exact ⟨he, doneD_same hM3 hv (fun x hx => .inr (by rw [List.mem_singleton] at hx; rw [hx]; exact List.mem_of_getElem? HT.out.2))⟩
  · go_wp2_with fail
    refine ⟨SB27 w, (show SB27 w (w.alloc (.cells #[.pointer none] 65)).drew from ((Below.refl w.heap.size w).alloc (Nat.le_refl _) _).drew), fun _ h => h, ?_⟩
    (try simp only [Act.put, List.setIfInBounds_toArray, List.set_cons_zero, List.set_cons_succ]); refine tree_one ?_; simp only [pickOps, List.getElem?_toArray, List.getElem?_cons_zero, List.getElem?_cons_succ]; (repeat (first | go_big_quiet_skip | (go_big_quiet_want; first | (go_big_quiet_op; first | go_big_quiet_on | ((first | with_reducible refine ⟨_, fun _ _ => rfl, ?_⟩); go_big_quiet_on)) | (simp (contextual := true) [go_sem, HD]; with_reducible refine ⟨_, fun _ _ => rfl, ?_⟩; go_big_quiet_on)))); refine wpQuiet_nil ?_
    go_wp2_with (go_at_call 35; refine (HO.out _ (show Below w.heap.size w (w.alloc (.cells #[.pointer none] 65)).drew from ((Below.refl w.heap.size w).alloc (Nat.le_refl _) _).drew)).mono ?_; rintro e w1 ⟨rfl, rfl⟩)
    refine ⟨SB27 w, (show SB27 w (w.alloc (.cells #[.pointer none] 65)).drew from ((Below.refl w.heap.size w).alloc (Nat.le_refl _) _).drew), fun _ h => h, ?_⟩
    (try simp only [Act.put, List.setIfInBounds_toArray, List.set_cons_zero, List.set_cons_succ]); refine tree_one ?_; simp only [pickOps, List.getElem?_toArray, List.getElem?_cons_zero, List.getElem?_cons_succ]; (repeat (first | go_big_quiet_skip | (go_big_quiet_want; first | (go_big_quiet_op; first | go_big_quiet_on | ((first | with_reducible refine ⟨_, fun _ _ => rfl, ?_⟩); go_big_quiet_on)) | (simp (contextual := true) [go_sem, HD]; with_reducible refine ⟨_, fun _ _ => rfl, ?_⟩; go_big_quiet_on)))); refine wpQuiet_nil ?_
    go_wp2_with fail
    have HQ := Lib.hid ((Blk.new w 65 #[.pointer tv]).drew)
    have HB2 := Lib.hid (show SB27 w (w.alloc (.cells #[.pointer tv] 65)).drew from ((Below.refl w.heap.size w).alloc (Nat.le_refl _) _).drew)
    obtain ⟨W, HW⟩ : ∃ W, Hid (W = (w.alloc (.cells #[.pointer tv] 65)).drew) := ⟨_, Lib.hid rfl⟩
    obtain ⟨q, HQE⟩ : ∃ q, Hid (q = w.heap.size) := ⟨_, Lib.hid rfl⟩
    have HQL := Lib.hid (show w.heap.size ≤ q by rw [HQE.out]; exact Nat.le_refl _)
    rw [← HW.out, ← HQE.out] at HQ
    rw [← HW.out] at HB2
    rw [← HW.out, ← HQE.out]
    refine ⟨SB27 w, HB2.out, fun _ h => h, ?_⟩
    (try simp only [Act.put, List.setIfInBounds_toArray, List.set_cons_zero, List.set_cons_succ]); refine tree_fin ?_; simp only [pickOps]; (repeat (first | go_big_quiet_skip | (go_big_quiet_want; first | (go_big_quiet_op; first | go_big_quiet_on | ((first | with_reducible refine ⟨_, fun _ _ => rfl, ?_⟩); go_big_quiet_on)) | (simp (contextual := true) [go_sem, HD]; with_reducible refine ⟨_, fun _ _ => rfl, ?_⟩; go_big_quiet_on)))); refine wpQuiet_nil ?_
    clear HW HQE HO HD
    have hbd := Blk.below HBD.out HB2.out HBD.out.lt
    have HBW := Lib.hid (HW0.out.trans (HB2.out.mono HW0.out.size))
    have HD2 := Lib.hid hbd
    obtain ⟨-, -, -, -, -, d8, d9, -⟩ := deed_cells hbd
    have f8 := hbd.frozen 8
    have f9 := hbd.frozen 9
    have q0 : W.cell? ⟨q, 0, none⟩ = some (.pointer tv) := (HQ.out.cell 0).trans rfl
    clear hbd
    cases ho : getM M r with
    | none =>
      have htv : tv = none := by rw [HV.out, ho]; rfl
      subst htv
      have HP := Lib.hid (show readyP M k i = (0, M) by unfold readyP; rw [← HR.out, ho])
      clear ho HV
      go_wp2_with fail
      refine bodyPost_ret (results_none rfl _ _ _) rfl ?_
      refine ⟨rfl, ?_⟩
      rw [HP.out]
      exact deed_nothing HM.out HS.out HD2.out HBW.out
    | some t =>
      have ht := (getM_lt ho).1
      obtain ⟨pt, hpt, hpv, hc⟩ := (HM.out.step HBW.out HS.out).go ht
      have htv : tv = some ⟨pt, 0, none⟩ := by
        have := gVal_ptr ps (some t)
        rw [hpv] at this
        injection this with this
        rw [HV.out, ho, this]
      subst htv
      have HT := Lib.hid (And.intro ht hpt)
      have cs := hc.done
      cases hsu : (goAt M t).th.done with
      | true =>
        rw [hsu] at cs
        have HP := Lib.hid (show readyP M k i = (0, M) by unfold readyP; rw [← HR.out, ho]; simp only; rw [if_pos hsu])
        clear ho HV hpt hpv hc ht hsu
        go_wp2_with fail
        refine bodyPost_ret (results_none rfl _ _ _) rfl ?_
        refine ⟨rfl, ?_⟩
        rw [HP.out]
        exact deed_nothing HM.out HS.out HD2.out HBW.out
      | false =>
        rw [hsu] at cs
        have HP := Lib.hid (show readyP M k i = (1, { M with l := M.l.set t { goAt M t with tok := (goAt M t).tok || !(goAt M t).blk, blk := false } }) by unfold readyP; rw [← HR.out, ho]; simp only; rw [if_neg (by rw [hsu]; decide)])
        clear ho HV hpt hpv hc ht hsu
        go_wp2_with fail
        go_end0
        refine ⟨rfl, ?_⟩
        rw [HP.out]
        refine deed_fn HD2.out HBW.out HG0.out 1 91 #[.pointer (some ⟨q, 0, none⟩)] (by kernel_rfl) fun w2 h2 hk2 _ => ?_
        have hz := HBD.out.lt
        have hz2 := HQL.out
        refine (ready1_any (HM.out.step h2 HS.out) (Nat.le_trans HS.out h2.size) HT.out.1 HT.out.2 (hk2 q _ _ (by omega) HQ.out)).mono ?_
        rintro e w3 ⟨he, hM3, hv⟩
        exact ⟨he, doneD_same hM3 hv (fun x hx => .inr (by rw [List.mem_singleton] at hx; rw [hx]; exact List.mem_of_getElem? HT.out.2))⟩
end
end Go.Proofs.YtkfpnppppmccdaaDoor
namespace Go.Proofs.YtkfpnppppmccdaaDoor
open Go.RowKit
section
variable {w : World} {m gm : Nat} {F : Option Addr} {fc : Nat} {fs : List Fn} {M : Md} {ps : List Nat} {L : Option Addr} {c : Nat} {Bs : List (Option Addr × Nat)}
set_option maxRecDepth 10000 in
set_option maxHeartbeats 2000000 in
theorem resume_any {w0 : World} (h : MdIs w0 m gm F fc fs M ps L c Bs) (hs : m ≤ w0.heap.size) {k p gd : Nat} (hk : k < M.l.length) (hp : ps[k]? = some p) (g : Int) (i : Ins) (a : Nat) (ha : i.a = a) (ha8 : a < 8) (hd : Blk w gd 92 (deedArr gm g p i 0 51 #[])) (hg0 : w0.heap.size ≤ gd) (hB : Below w0.heap.size w0 w) :
    Calls Tryd.prog 69 #[.pointer (some ⟨gd, 0, none⟩)] w fun e w' => e = .returned (.tuple #[]) ∧ DeedOut m gm F fc fs ps L Bs w0 gd g p i (resuP M k i) w' := by
  have G0 : ∀ w', SB27 w w' → w'.cell? ⟨gd, 0, none⟩ = some (.pointer (some ⟨gm, 0, none⟩)) := fun w' h => h.cell hd rfl
  have G2 : ∀ w', SB27 w w' → w'.cell? ⟨gd, 2, none⟩ = some (.pointer (some ⟨p, 0, none⟩)) := fun w' h => h.cell hd rfl
  have G4 : ∀ w', SB27 w w' → w'.cell? ⟨gd, 4, none⟩ = some (.int .i64 (a : Int)) := fun w' h => by rw [← ha]; exact h.cell hd rfl
  obtain ⟨r, HR⟩ : ∃ r, Hid (r = regA (goAt M k) i) := ⟨_, Lib.hid rfl⟩
  have GR : ∀ w', SB27 w w' → w'.cell? ⟨p, 2 + a, none⟩ = some (.int .i64 r) := fun w' hw => by
    obtain ⟨B, d, hb, hr⟩ := (h.step (hB.trans (Below.mono hw hB.size)) hs).blkAt hk hp
    rw [(go_cells hb hr).reg a ha8, HR.out]
    unfold regA
    rw [ha]
    rfl
  have HO := Lib.hid (fun (W : World) (hW : Below w.heap.size w W) => get_any (h.step (hB.trans (hW.mono hB.size)) hs) r)
  simp only [gVal_ptr] at HO
  obtain ⟨tv, HV⟩ : ∃ tv, Hid (tv = gPtr ps (getM M r)) := ⟨_, Lib.hid rfl⟩
  simp only [← HV.out] at HO
  have HD := Lib.hid (show SB27 w w.drew from (Below.refl _ w).drew)
  have HW0 := Lib.hid hB
  have HBD := Lib.hid hd
  have HM := Lib.hid h
  have HS := Lib.hid hs
  have HG0 := Lib.hid hg0
  clear h hs hk hp ha hd hg0 hB
  have hsf : ∀ (a : Addr) (fn : Go.Fn) (first cap : Array Value) (md : Mode) (w : World), (store a (.func fn first cap) md).run Tryd.prog w = stored Tryd.prog w a (.func fn first cap) md := fun a fn first cap md w => run_store Tryd.prog w a _ md rfl
  have ha9 : (a : Int) < 8 := by omega
  have ha0 : (0 : Int) ≤ a := by omega
  go_enter Tryd.func69, Tryd.ntmps69
  go_wp2_with fail
  refine region_tree (SB27 w) (.two [0, 1, 2, 3, 4, 5, 6, 7, 8, 9, 10, 11, 12, 13, 14, 15, 16, 17] 18 (.one [] 19 (.one [] 20 (.fin []))) 19 (.one [] 18 (.one [] 20 (.fin [])))) (by kernel_rfl) (by kernel_rfl) (by kernel_rfl) (fun _ _ d _ _ h => by cases d <;> exact h) HD.out ?_
  (try simp only [Act.put, List.setIfInBounds_toArray, List.set_cons_zero, List.set_cons_succ]); refine tree_two ?_; simp only [pickOps, List.getElem?_toArray, List.getElem?_cons_zero, List.getElem?_cons_succ]; (repeat (first | go_big_quiet_skip | (go_big_quiet_want; first | (go_big_quiet_op; first | go_big_quiet_on | ((first | with_reducible refine ⟨_, fun _ _ => rfl, ?_⟩); go_big_quiet_on)) | (simp (contextual := true) [go_sem, G0, G2, G4, GR]; with_reducible refine ⟨_, fun _ _ => rfl, ?_⟩; go_big_quiet_on)))); refine wpQuiet_nil ?_
  clear G0 G2 G4 GR ha9 ha0 ha8
  refine ⟨?_, ?_⟩
  · go_wp2_with (go_at_call 35; refine (HO.out _ HD.out).mono ?_; rintro e w1 ⟨rfl, rfl⟩)
    refine ⟨SB27 w, HD.out, fun _ h => h, ?_⟩
    (try simp only [Act.put, List.setIfInBounds_toArray, List.set_cons_zero, List.set_cons_succ]); refine tree_one ?_; simp only [pickOps, List.getElem?_toArray, List.getElem?_cons_zero, List.getElem?_cons_succ]; (repeat (first | go_big_quiet_skip | (go_big_quiet_want; first | (go_big_quiet_op; first | go_big_quiet_on | ((first | with_reducible refine ⟨_, fun _ _ => rfl, ?_⟩); go_big_quiet_on)) | (simp (contextual := true) [go_sem, HD]; with_reducible refine ⟨_, fun _ _ => rfl, ?_⟩; go_big_quiet_on)))); refine wpQuiet_nil ?_
    go_wp2_with fail
    refine ⟨SB27 w, HD.out.alloc HD.out.size _, fun _ h => h, ?_⟩
    (try simp only [Act.put, List.setIfInBounds_toArray, List.set_cons_zero, List.set_cons_succ]); refine tree_one ?_; simp only [pickOps, List.getElem?_toArray, List.getElem?_cons_zero, List.getElem?_cons_succ]; (repeat (first | go_big_quiet_skip | (go_big_quiet_want; first | (go_big_quiet_op; first | go_big_quiet_on | ((first | with_reducible refine ⟨_, fun _ _ => rfl, ?_⟩); go_big_quiet_on)) | (simp (contextual := true) [go_sem, HD]; with_reducible refine ⟨_, fun _ _ => rfl, ?_⟩; go_big_quiet_on)))); refine wpQuiet_nil ?_
    go_wp2_with fail
    have HQ := Lib.hid ((Blk.new w 65 #[.pointer tv]).drew)
    have HB2 := Lib.hid (show SB27 w (w.alloc (.cells #[.pointer tv] 65)).drew from ((Below.refl w.heap.size w).alloc (Nat.le_refl _) _).drew)
    obtain ⟨W, HW⟩ : ∃ W, Hid (W = (w.alloc (.cells #[.pointer tv] 65)).drew) := ⟨_, Lib.hid rfl⟩
    obtain ⟨q, HQE⟩ : ∃ q, Hid (q = w.heap.size) := ⟨_, Lib.hid rfl⟩
    have HQL := Lib.hid (show w.heap.size ≤ q by rw [HQE.out]; exact Nat.le_refl _)
    rw [← HW.out, ← HQE.out] at HQ
    rw [← HW.out] at HB2
    rw [← HW.out, ← HQE.out]
    refine ⟨SB27 w, HB2.out, fun _ h => h, ?_⟩
    (try simp only [Act.put, List.setIfInBounds_toArray, List.set_cons_zero, List.set_cons_succ]); refine tree_fin ?_; simp only [pickOps]; (repeat (first | go_big_quiet_skip | (go_big_quiet_want; first | (go_big_quiet_op; first | go_big_quiet_on | ((first | with_reducible refine ⟨_, fun _ _ => rfl, ?_⟩); go_big_quiet_on)) | (simp (contextual := true) [go_sem, HD]; with_reducible refine ⟨_, fun _ _ => rfl, ?_⟩; go_big_quiet_on)))); refine wpQuiet_nil ?_
    clear HW HQE HO HD
    have hbd := Blk.below HBD.out HB2.out HBD.out.lt
    have HBW := Lib.hid (HW0.out.trans (HB2.out.mono HW0.out.size))
    have HD2 := Lib.hid hbd
    obtain ⟨-, -, -, -, -, d8, d9, -⟩ := deed_cells hbd
    have f8 := hbd.frozen 8
    have f9 := hbd.frozen 9
    have q0 : W.cell? ⟨q, 0, none⟩ = some (.pointer tv) := (HQ.out.cell 0).trans rfl
    clear hbd
    cases ho : getM M r with
    | none =>
      have htv : tv = none := by rw [HV.out, ho]; rfl
      subst htv
      have HP := Lib.hid (show resuP M k i = (0, M) by unfold resuP; rw [← HR.out, ho])
      clear ho HV
      go_wp2_with fail
      go_end0
      refine ⟨rfl, ?_⟩
      rw [HP.out]
      exact deed_nothing HM.out HS.out HD2.out HBW.out
    | some t =>
      have ht := (getM_lt ho).1
      obtain ⟨pt, hpt, hpv, hc⟩ := (HM.out.step HBW.out HS.out).go ht
      have htv : tv = some ⟨pt, 0, none⟩ := by
        have := gVal_ptr ps (some t)
        rw [hpv] at this
        injection this with this
        rw [HV.out, ho, this]
      subst htv
      have HT := Lib.hid (And.intro ht hpt)
      have cs := hc.sus
      cases hsu : (goAt M t).sus with
      | false =>
        rw [hsu] at cs
        have HP := Lib.hid (show resuP M k i = (0, M) by unfold resuP; rw [← HR.out, ho]; simp only; rw [if_neg (by rw [hsu]; decide)])
        clear ho HV hpt hpv hc ht hsu
        go_wp2_with fail
        go_end0
        refine ⟨rfl, ?_⟩
        rw [HP.out]
        exact deed_nothing HM.out HS.out HD2.out HBW.out
      | true =>
        rw [hsu] at cs
        have HP := Lib.hid (show resuP M k i = (1, { M with l := M.l.set t { goAt M t with sus := false } }) by unfold resuP; rw [← HR.out, ho]; simp only; rw [if_pos hsu])
        clear ho HV hpt hpv hc ht hsu
        go_wp2_with fail
        go_end0
        refine ⟨rfl, ?_⟩
        rw [HP.out]
        refine deed_fn HD2.out HBW.out HG0.out 1 90 #[.pointer (some ⟨q, 0, none⟩)] (by kernel_rfl) fun w2 h2 hk2 _ => ?_
        have hz := HBD.out.lt
        have hz2 := HQL.out
        refine (resu1_any (HM.out.step h2 HS.out) (Nat.le_trans HS.out h2.size) HT.out.1 HT.out.2 (hk2 q _ _ (by omega) HQ.out)).mono ?_
        rintro e w3 ⟨he, hM3, hv⟩
        exact ⟨he, doneD_same hM3 hv (fun x hx => .inr (by rw [List.mem_singleton] at hx; rw [hx]; exact List.mem_of_getElem? HT.out.2))⟩
  · go_wp2_with fail
    refine ⟨SB27 w, (show SB27 w (w.alloc (.cells #[.pointer none] 65)).drew from ((Below.refl w.heap.size w).alloc (Nat.le_refl _) _).drew), fun _ h => h, ?_⟩
    (try simp only [Act.put, List.setIfInBounds_toArray, List.set_cons_zero, List.set_cons_succ]); refine tree_one ?_; simp only [pickOps, List.getElem?_toArray, List.getElem?_cons_zero, List.getElem?_cons_succ]; (repeat (first | go_big_quiet_skip | (go_big_quiet_want; first | (go_big_quiet_op; first | go_big_quiet_on | ((first | with_reducible refine ⟨_, fun _ _ => rfl, ?_⟩); go_big_quiet_on)) | (simp (contextual := true) [go_sem, HD]; with_reducible refine ⟨_, fun _ _ => rfl, ?_⟩; go_big_quiet_on)))); refine wpQuiet_nil ?_
    go_wp2_with (go_at_call 35; refine (HO.out _ (show Below w.heap.size w (w.alloc (.cells #[.pointer none] 65)).drew from ((Below.refl w.heap.size w).alloc (Nat.le_refl _) _).drew)).mono ?_; rintro e w1 ⟨rfl, rfl⟩)
    refine ⟨SB27 w, (show SB27 w (w.alloc (.cells #[.pointer none] 65)).drew from ((Below.refl w.heap.size w).alloc (Nat.le_refl _) _).drew), fun _ h => h, ?_⟩
    (try simp only [Act.put, List.setIfInBounds_toArray, List.set_cons_zero, List.set_cons_succ]); refine tree_one ?_; simp only [pickOps, List.getElem?_toArray, List.getElem?_cons_zero, List.getElem?_cons_succ]; (repeat (first | go_big_quiet_skip | (go_big_quiet_want; first | (go_big_quiet_op; first | go_big_quiet_on | ((first | with_reducible refine ⟨_, fun _ _ => rfl, ?_⟩); go_big_quiet_on)) | (simp (contextual := true) [go_sem, HD]; with_reducible refine ⟨_, fun _ _ => rfl, ?_⟩; go_big_quiet_on)))); refine wpQuiet_nil ?_
    go_wp2_with fail
    have HQ := Lib.hid ((Blk.new w 65 #[.pointer tv]).drew)
    have HB2 := Lib.hid (show SB27 w (w.alloc (.cells #[.pointer tv] 65)).drew from ((Below.refl w.heap.size w).alloc (Nat.le_refl _) _).drew)
    obtain ⟨W, HW⟩ : ∃ W, Hid (W = (w.alloc (.cells #[.pointer tv] 65)).drew) := ⟨_, Lib.hid rfl⟩
    obtain ⟨q, HQE⟩ : ∃ q, Hid (q = w.heap.size) := ⟨_, Lib.hid rfl⟩
    have HQL := Lib.hid (show w.heap.size ≤ q by rw [HQE.out]; exact Nat.le_refl _)
    rw [← HW.out, ← HQE.out] at HQ
    rw [← HW.out] at HB2
    rw [← HW.out, ← HQE.out]
    refine ⟨SB27 w, HB2.out, fun _ h => h, ?_⟩
    (try simp only [Act.put, List.setIfInBounds_toArray, List.set_cons_zero, List.set_cons_succ]); refine tree_fin ?_; simp only [pickOps]; (repeat (first | go_big_quiet_skip | (go_big_quiet_want; first | (go_big_quiet_op; first | go_big_quiet_on | ((first | with_reducible refine ⟨_, fun _ _ => rfl, ?_⟩); go_big_quiet_on)) | (simp (contextual := true) [go_sem, HD]; with_reducible refine ⟨_, fun _ _ => rfl, ?_⟩; go_big_quiet_on)))); refine wpQuiet_nil ?_
    clear HW HQE HO HD
    have hbd := Blk.below HBD.out HB2.out HBD.out.lt
    have HBW := Lib.hid (HW0.out.trans (HB2.out.mono HW0.out.size))
    have HD2 := Lib.hid hbd
    obtain ⟨-, -, -, -, -, d8, d9, -⟩ := deed_cells hbd
    have f8 := hbd.frozen 8
    have f9 := hbd.frozen 9
    have q0 : W.cell? ⟨q, 0, none⟩ = some (.pointer tv) := (HQ.out.cell 0).trans rfl
    clear hbd
    cases ho : getM M r with
    | none =>
      have htv : tv = none := by rw [HV.out, ho]; rfl
      subst htv
      have HP := Lib.hid (show resuP M k i = (0, M) by unfold resuP; rw [← HR.out, ho])
      clear ho HV
      go_wp2_with fail
      go_end0
      refine ⟨rfl, ?_⟩
      rw [HP.out]
      exact deed_nothing HM.out HS.out HD2.out HBW.out
    | some t =>
      have ht := (getM_lt ho).1
      obtain ⟨pt, hpt, hpv, hc⟩ := (HM.out.step HBW.out HS.out).go ht
      have htv : tv = some ⟨pt, 0, none⟩ := by
        have := gVal_ptr ps (some t)
        rw [hpv] at this
        injection this with this
        rw [HV.out, ho, this]
      subst htv
      have HT := Lib.hid (And.intro ht hpt)
      have cs := hc.sus
      cases hsu : (goAt M t).sus with
      | false =>
        rw [hsu] at cs
        have HP := Lib.hid (show resuP M k i = (0, M) by unfold resuP; rw [← HR.out, ho]; simp only; rw [if_neg (by rw [hsu]; decide)])
        clear ho HV hpt hpv hc ht hsu
        go_wp2_with fail
        go_end0
        refine ⟨rfl, ?_⟩
        rw [HP.out]
        exact deed_nothing HM.out HS.out HD2.out HBW.out
      | true =>
        rw [hsu] at cs
        have HP := Lib.hid (show resuP M k i = (1, { M with l := M.l.set t { goAt M t with sus := false } }) by unfold resuP; rw [← HR.out, ho]; simp only; rw [if_pos hsu])
        clear ho HV hpt hpv hc ht hsu
        go_wp2_with fail
        go_end0
        refine ⟨rfl, ?_⟩
        rw [HP.out]
        refine deed_fn HD2.out HBW.out HG0.out 1 90 #[.pointer (some ⟨q, 0, none⟩)] (by kernel_rfl) fun w2 h2 hk2 _ => ?_
        have hz := HBD.out.lt
        have hz2 := HQL.out
        refine (resu1_any (HM.out.step h2 HS.out) (Nat.le_trans HS.out h2.size) HT.out.1 HT.out.2 (hk2 q _ _ (by omega) HQ.out)).mono ?_
        rintro e w3 ⟨he, hM3, hv⟩
        exact ⟨he, doneD_same hM3 hv (fun x hx => .inr (by rw [List.mem_singleton] at hx; rw [hx]; exact List.mem_of_getElem? HT.out.2))⟩
end
end Go.Proofs.YtkfpnppppmccdaaDoor
namespace Go.Proofs.YtkfpnppppmccdaaDoor
open Go.RowKit
section
variable {w : World} {m gm : Nat} {F : Option Addr} {fc : Nat} {fs : List Fn} {M : Md} {ps : List Nat} {L : Option Addr} {c : Nat} {Bs : List (Option Addr × Nat)}
set_option maxRecDepth 10000 in
set_option maxHeartbeats 2000000 in
theorem stop_any {w0 : World} (h : MdIs w0 m gm F fc fs M ps L c Bs) (hs : m ≤ w0.heap.size) {k p gd : Nat} (hk : k < M.l.length) (hp : ps[k]? = some p) (g : Int) (i : Ins) (hd : Blk w gd 92 (deedArr gm g p i 0 51 #[])) (hg0 : w0.heap.size ≤ gd) (hB : Below w0.heap.size w0 w) :
    Calls Tryd.prog 74 #[.pointer (some ⟨gd, 0, none⟩)] w fun e w' => e = .returned (.tuple #[]) ∧ DeedOut m gm F fc fs ps L Bs w0 gd g p i (stopP M g) w' := by
  obtain ⟨W, HW⟩ : ∃ W, Hid (W = w.alloc (.cells #[.pointer (some ⟨gd, 0, none⟩)] 90)) := ⟨_, Lib.hid rfl⟩
  obtain ⟨q, HQE⟩ : ∃ q, Hid (q = w.heap.size) := ⟨_, Lib.hid rfl⟩
  have HB2 := Lib.hid (show SB27 w W from by rw [HW.out]; exact (Below.refl w.heap.size w).alloc (Nat.le_refl _) _)
  have HQ := Lib.hid (show Blk W q 90 #[.pointer (some ⟨gd, 0, none⟩)] by rw [HW.out, HQE.out]; exact Blk.new w _ _)
  have HQL := Lib.hid (show w.heap.size ≤ q by rw [HQE.out]; exact Nat.le_refl _)
  have HBD := Lib.hid hd
  have hbd := Blk.below hd HB2.out hd.lt
  have HBW := Lib.hid (hB.trans (HB2.out.mono hB.size))
  have HD2 := Lib.hid hbd
  obtain ⟨d0, d1, d2, -, -, d8, d9, -⟩ := deed_cells hbd
  have f9 := hbd.frozen 9
  have q0 : W.cell? ⟨q, 0, none⟩ = some (.pointer (some ⟨gd, 0, none⟩)) := (HQ.out.cell 0).trans rfl
  have HM := Lib.hid h
  have HS := Lib.hid hs
  have HG0 := Lib.hid hg0
  have HKP := Lib.hid (And.intro hk hp)
  clear h hs hk hp hd hg0 hB hbd
  have hsf : ∀ (a : Addr) (fn : Go.Fn) (first cap : Array Value) (md : Mode) (w : World), (store a (.func fn first cap) md).run Tryd.prog w = stored Tryd.prog w a (.func fn first cap) md := fun a fn first cap md w => run_store Tryd.prog w a _ md rfl
  go_enter Tryd.func74, Tryd.ntmps74
  go_wp2_with (rw [← HW.out, ← HQE.out])
  go_end0
  refine ⟨rfl, ?_⟩
  refine deed_fn9 HD2.out HBW.out HG0.out 94 #[.pointer (some ⟨q, 0, none⟩)] (by kernel_rfl) fun w2 h2 hk2 hd2 => ?_
  have hz := HBD.out.lt
  have hz2 := HQL.out
  have hgm := HM.out.head.lt
  have hpp := HM.out.pl p (List.mem_of_getElem? HKP.out.2)
  have hg0 := HG0.out
  refine (stop1_any (HM.out.step h2 HS.out) (Nat.le_trans HS.out h2.size) (hk2 q _ _ (by omega) HQ.out) hd2 rfl rfl).mono ?_
  rintro e w3 ⟨he, hM3, hv⟩
  exact ⟨he, doneD_same hM3 hv (fun x hx => by rw [List.mem_singleton] at hx; rw [hx]; exact .inl rfl)⟩

set_option maxRecDepth 10000 in
set_option maxHeartbeats 2000000 in
theorem start_any {w0 : World} (h : MdIs w0 m gm F fc fs M ps L c Bs) (hs : m ≤ w0.heap.size) {k p gd : Nat} (hk : k < M.l.length) (hp : ps[k]? = some p) (g : Int) (i : Ins) (hd : Blk w gd 92 (deedArr gm g p i 0 51 #[])) (hg0 : w0.heap.size ≤ gd) (hB : Below w0.heap.size w0 w) :
    Calls Tryd.prog 75 #[.pointer (some ⟨gd, 0, none⟩)] w fun e w' => e = .returned (.tuple #[]) ∧ DeedOut m gm F fc fs ps L Bs w0 gd g p i (startP M g) w' := by
  obtain ⟨W, HW⟩ : ∃ W, Hid (W = w.alloc (.cells #[.pointer (some ⟨gd, 0, none⟩)] 90)) := ⟨_, Lib.hid rfl⟩
  obtain ⟨q, HQE⟩ : ∃ q, Hid (q = w.heap.size) := ⟨_, Lib.hid rfl⟩
  have HB2 := Lib.hid (show SB27 w W from by rw [HW.out]; exact (Below.refl w.heap.size w).alloc (Nat.le_refl _) _)
  have HQ := Lib.hid (show Blk W q 90 #[.pointer (some ⟨gd, 0, none⟩)] by rw [HW.out, HQE.out]; exact Blk.new w _ _)
  have HQL := Lib.hid (show w.heap.size ≤ q by rw [HQE.out]; exact Nat.le_refl _)
  have HBD := Lib.hid hd
  have hbd := Blk.below hd HB2.out hd.lt
  have HBW := Lib.hid (hB.trans (HB2.out.mono hB.size))
  have HD2 := Lib.hid hbd
  obtain ⟨d0, d1, d2, -, -, d8, d9, -⟩ := deed_cells hbd
  have Q0 : ∀ w', SB27 W w' → w'.cell? ⟨q, 0, none⟩ = some (.pointer (some ⟨gd, 0, none⟩)) := fun w' h => h.cell HQ.out rfl
  have D0 : ∀ w', SB27 W w' → w'.cell? ⟨gd, 0, none⟩ = some (.pointer (some ⟨gm, 0, none⟩)) := fun w' h => h.cell HD2.out rfl
  have D1 : ∀ w', SB27 W w' → w'.cell? ⟨gd, 1, none⟩ = some (.int .i64 g) := fun w' h => h.cell HD2.out rfl
  have C3 : ∀ w', SB27 W w' → w'.cell? ⟨gm, 3, none⟩ = some (.int .i64 M.holder) := fun w' h' => h'.cell (h.step HBW.out hs).head rfl
  have f9 := hbd.frozen 9
  have q0 : W.cell? ⟨q, 0, none⟩ = some (.pointer (some ⟨gd, 0, none⟩)) := (HQ.out.cell 0).trans rfl
  have HM := Lib.hid h
  have HS := Lib.hid hs
  have HG0 := Lib.hid hg0
  have HKP := Lib.hid (And.intro hk hp)
  clear h hs hk hp hd hg0 hB hbd
  have hsf : ∀ (a : Addr) (fn : Go.Fn) (first cap : Array Value) (md : Mode) (w : World), (store a (.func fn first cap) md).run Tryd.prog w = stored Tryd.prog w a (.func fn first cap) md := fun a fn first cap md w => run_store Tryd.prog w a _ md rfl
  by_cases hh : M.holder = g
  · have e1 : (M.holder == g) = true := by simpa using hh
    have HP := Lib.hid (show startP M g = (0, { M with holder := 0, owner := 0 }) by unfold startP; rw [if_pos hh])
    clear hh
    go_enter Tryd.func75, Tryd.ntmps75
    go_wp2_with (rw [← HW.out, ← HQE.out])
    refine region_calm (SB27 W) (by kernel_rfl) (by kernel_rfl) (Below.refl W.heap.size W).drew ?_
    repeat (first | go_big_quiet_skip | (go_big_quiet_want; first | (go_big_quiet_op; first | go_big_quiet_on | ((first | with_reducible refine ⟨_, fun _ _ => rfl, ?_⟩); go_big_quiet_on)) | (simp (contextual := true) [go_sem, Q0, D0, D1, C3]; with_reducible refine ⟨_, fun _ _ => rfl, ?_⟩; go_big_quiet_on)))
    refine wpQuiet_nil ?_
    intro W1 hw1
    have HQ := Lib.hid (HQ.out.below hw1 HQ.out.lt)
    have HBW := Lib.hid (HBW.out.trans (Below.mono hw1 HBW.out.size))
    have hbd := HD2.out.below hw1 HD2.out.lt
    have HD2 := Lib.hid hbd
    obtain ⟨d0, d1, d2, -, -, d8, d9, -⟩ := deed_cells hbd
    have f9 := hbd.frozen 9
    have q0 : W1.cell? ⟨q, 0, none⟩ = some (.pointer (some ⟨gd, 0, none⟩)) := (HQ.out.cell 0).trans rfl
    clear hbd Q0 D0 D1 C3 hw1
    go_wp2_with fail
    go_end0
    refine ⟨rfl, ?_⟩
    rw [HP.out]
    refine deed_fn9 HD2.out HBW.out HG0.out 95 #[.pointer (some ⟨q, 0, none⟩)] (by kernel_rfl) fun w2 h2 hk2 hd2 => ?_
    have hz := HBD.out.lt
    have hz2 := HQL.out
    have hgm := HM.out.head.lt
    have hpp := HM.out.pl p (List.mem_of_getElem? HKP.out.2)
    have hg0 := HG0.out
    refine (start1_any (HM.out.step h2 HS.out) (Nat.le_trans HS.out h2.size) (hk2 q _ _ (by omega) HQ.out) hd2 rfl (by omega) (by omega)).mono ?_
    rintro e w3 ⟨he, hM3, hv⟩
    exact ⟨he, doneD_same hM3 hv (fun x hx => by rw [List.mem_singleton] at hx; rw [hx]; exact .inl rfl)⟩
  · have e1 : (M.holder == g) = false := by simpa using hh
    have HP := Lib.hid (show startP M g = (0, M) by unfold startP; rw [if_neg hh])
    clear hh
    go_enter Tryd.func75, Tryd.ntmps75
    go_wp2_with (rw [← HW.out, ← HQE.out])
    refine region_calm (SB27 W) (by kernel_rfl) (by kernel_rfl) (Below.refl W.heap.size W).drew ?_
    repeat (first | go_big_quiet_skip | (go_big_quiet_want; first | (go_big_quiet_op; first | go_big_quiet_on | ((first | with_reducible refine ⟨_, fun _ _ => rfl, ?_⟩); go_big_quiet_on)) | (simp (contextual := true) [go_sem, Q0, D0, D1, C3]; with_reducible refine ⟨_, fun _ _ => rfl, ?_⟩; go_big_quiet_on)))
    refine wpQuiet_nil ?_
    intro W1 hw1
    have HQ := Lib.hid (HQ.out.below hw1 HQ.out.lt)
    have HBW := Lib.hid (HBW.out.trans (Below.mono hw1 HBW.out.size))
    have hbd := HD2.out.below hw1 HD2.out.lt
    have HD2 := Lib.hid hbd
    obtain ⟨d0, d1, d2, -, -, d8, d9, -⟩ := deed_cells hbd
    have f9 := hbd.frozen 9
    have q0 : W1.cell? ⟨q, 0, none⟩ = some (.pointer (some ⟨gd, 0, none⟩)) := (HQ.out.cell 0).trans rfl
    clear hbd Q0 D0 D1 C3 hw1
    go_wp2_with fail
    go_end0
    refine ⟨rfl, ?_⟩
    rw [HP.out]
    exact deed_nothing HM.out HS.out HD2.out HBW.out
set_option maxRecDepth 10000 in
set_option maxHeartbeats 2000000 in
theorem barrier_any {w0 : World} (h : MdIs w0 m gm F fc fs M ps L c Bs) (hs : m ≤ w0.heap.size) {k p gd : Nat} (hk : k < M.l.length) (hp : ps[k]? = some p) (g : Int) (i : Ins) (hd : Blk w gd 92 (deedArr gm g p i 0 51 #[])) (hg0 : w0.heap.size ≤ gd) (hB : Below w0.heap.size w0 w) :
    Calls Tryd.prog 76 #[.pointer (some ⟨gd, 0, none⟩)] w fun e w' => e = .returned (.tuple #[]) ∧ DeedOut m gm F fc fs ps L Bs w0 gd g p i (barrP M g) w' := by
  obtain ⟨W, HW⟩ : ∃ W, Hid (W = w.alloc (.cells #[.pointer (some ⟨gd, 0, none⟩)] 90)) := ⟨_, Lib.hid rfl⟩
  obtain ⟨q, HQE⟩ : ∃ q, Hid (q = w.heap.size) := ⟨_, Lib.hid rfl⟩
  have HB2 := Lib.hid (show SB27 w W from by rw [HW.out]; exact (Below.refl w.heap.size w).alloc (Nat.le_refl _) _)
  have HQ := Lib.hid (show Blk W q 90 #[.pointer (some ⟨gd, 0, none⟩)] by rw [HW.out, HQE.out]; exact Blk.new w _ _)
  have HQL := Lib.hid (show w.heap.size ≤ q by rw [HQE.out]; exact Nat.le_refl _)
  have HBD := Lib.hid hd
  have hbd := Blk.below hd HB2.out hd.lt
  have HBW := Lib.hid (hB.trans (HB2.out.mono hB.size))
  have HD2 := Lib.hid hbd
  obtain ⟨d0, d1, d2, -, -, d8, d9, -⟩ := deed_cells hbd
  have Q0 : ∀ w', SB27 W w' → w'.cell? ⟨q, 0, none⟩ = some (.pointer (some ⟨gd, 0, none⟩)) := fun w' h => h.cell HQ.out rfl
  have D0 : ∀ w', SB27 W w' → w'.cell? ⟨gd, 0, none⟩ = some (.pointer (some ⟨gm, 0, none⟩)) := fun w' h => h.cell HD2.out rfl
  have D1 : ∀ w', SB27 W w' → w'.cell? ⟨gd, 1, none⟩ = some (.int .i64 g) := fun w' h => h.cell HD2.out rfl
  have C3 : ∀ w', SB27 W w' → w'.cell? ⟨gm, 3, none⟩ = some (.int .i64 M.holder) := fun w' h' => h'.cell (h.step HBW.out hs).head rfl
  have f9 := hbd.frozen 9
  have q0 : W.cell? ⟨q, 0, none⟩ = some (.pointer (some ⟨gd, 0, none⟩)) := (HQ.out.cell 0).trans rfl
  have HM := Lib.hid h
  have HS := Lib.hid hs
  have HG0 := Lib.hid hg0
  have HKP := Lib.hid (And.intro hk hp)
  clear h hs hk hp hd hg0 hB hbd
  have hsf : ∀ (a : Addr) (fn : Go.Fn) (first cap : Array Value) (md : Mode) (w : World), (store a (.func fn first cap) md).run Tryd.prog w = stored Tryd.prog w a (.func fn first cap) md := fun a fn first cap md w => run_store Tryd.prog w a _ md rfl
  by_cases hh : M.holder = g
  · have e1 : (M.holder == g) = true := by simpa using hh
    have HP := Lib.hid (show barrP M g = (0, M) by unfold barrP; rw [if_pos hh])
    clear hh
    go_enter Tryd.func76, Tryd.ntmps76
    go_wp2_with (rw [← HW.out, ← HQE.out])
    refine region_calm (SB27 W) (by kernel_rfl) (by kernel_rfl) (Below.refl W.heap.size W).drew ?_
    repeat (first | go_big_quiet_skip | (go_big_quiet_want; first | (go_big_quiet_op; first | go_big_quiet_on | ((first | with_reducible refine ⟨_, fun _ _ => rfl, ?_⟩); go_big_quiet_on)) | (simp (contextual := true) [go_sem, Q0, D0, D1, C3]; with_reducible refine ⟨_, fun _ _ => rfl, ?_⟩; go_big_quiet_on)))
    refine wpQuiet_nil ?_
    intro W1 hw1
    have HQ := Lib.hid (HQ.out.below hw1 HQ.out.lt)
    have HBW := Lib.hid (HBW.out.trans (Below.mono hw1 HBW.out.size))
    have hbd := HD2.out.below hw1 HD2.out.lt
    have HD2 := Lib.hid hbd
    obtain ⟨d0, d1, d2, -, -, d8, d9, -⟩ := deed_cells hbd
    have f9 := hbd.frozen 9
    have q0 : W1.cell? ⟨q, 0, none⟩ = some (.pointer (some ⟨gd, 0, none⟩)) := (HQ.out.cell 0).trans rfl
    clear hbd Q0 D0 D1 C3 hw1
    go_wp2_with fail
    go_end0
    refine ⟨rfl, ?_⟩
    rw [HP.out]
    exact deed_nothing HM.out HS.out HD2.out HBW.out
  · have e1 : (M.holder == g) = false := by simpa using hh
    have HP := Lib.hid (show barrP M g = (0, { M with owner := 0 }) by unfold barrP; rw [if_neg hh])
    clear hh
    go_enter Tryd.func76, Tryd.ntmps76
    go_wp2_with (rw [← HW.out, ← HQE.out])
    refine region_calm (SB27 W) (by kernel_rfl) (by kernel_rfl) (Below.refl W.heap.size W).drew ?_
    repeat (first | go_big_quiet_skip | (go_big_quiet_want; first | (go_big_quiet_op; first | go_big_quiet_on | ((first | with_reducible refine ⟨_, fun _ _ => rfl, ?_⟩); go_big_quiet_on)) | (simp (contextual := true) [go_sem, Q0, D0, D1, C3]; with_reducible refine ⟨_, fun _ _ => rfl, ?_⟩; go_big_quiet_on)))
    refine wpQuiet_nil ?_
    intro W1 hw1
    have HQ := Lib.hid (HQ.out.below hw1 HQ.out.lt)
    have HBW := Lib.hid (HBW.out.trans (Below.mono hw1 HBW.out.size))
    have hbd := HD2.out.below hw1 HD2.out.lt
    have HD2 := Lib.hid hbd
    obtain ⟨d0, d1, d2, -, -, d8, d9, -⟩ := deed_cells hbd
    have f9 := hbd.frozen 9
    have q0 : W1.cell? ⟨q, 0, none⟩ = some (.pointer (some ⟨gd, 0, none⟩)) := (HQ.out.cell 0).trans rfl
    clear hbd Q0 D0 D1 C3 hw1
    go_wp2_with fail
    go_end0
    refine ⟨rfl, ?_⟩
    rw [HP.out]
    refine deed_fn9 HD2.out HBW.out HG0.out 96 #[.pointer (some ⟨q, 0, none⟩)] (by kernel_rfl) fun w2 h2 hk2 hd2 => ?_
    have hz := HBD.out.lt
    have hz2 := HQL.out
    have hgm := HM.out.head.lt
    have hpp := HM.out.pl p (List.mem_of_getElem? HKP.out.2)
    have hg0 := HG0.out
    refine (barr1_any (HM.out.step h2 HS.out) (Nat.le_trans HS.out h2.size) (hk2 q _ _ (by omega) HQ.out) hd2 rfl).mono ?_
    rintro e w3 ⟨he, hM3, hv⟩
    exact ⟨he, doneD_same hM3 hv (fun x hx => by rw [List.mem_singleton] at hx; rw [hx]; exact .inl rfl)⟩
set_option maxRecDepth 10000 in
set_option maxHeartbeats 2000000 in
theorem block_any {w0 : World} (h : MdIs w0 m gm F fc fs M ps L c Bs) (hs : m ≤ w0.heap.size) {k p gd : Nat} (hk : k < M.l.length) (hp : ps[k]? = some p) (g : Int) (i : Ins) (hd : Blk w gd 92 (deedArr gm g p i 0 51 #[])) (hg0 : w0.heap.size ≤ gd) (hB : Below w0.heap.size w0 w) :
    Calls Tryd.prog 77 #[.pointer (some ⟨gd, 0, none⟩)] w fun e w' => e = .returned (.tuple #[]) ∧ DeedOut m gm F fc fs ps L Bs w0 gd g p i (blockP M g k) w' := by
  obtain ⟨W, HW⟩ : ∃ W, Hid (W = w.alloc (.cells #[.pointer (some ⟨gd, 0, none⟩)] 90)) := ⟨_, Lib.hid rfl⟩
  obtain ⟨q, HQE⟩ : ∃ q, Hid (q = w.heap.size) := ⟨_, Lib.hid rfl⟩
  have HB2 := Lib.hid (show SB27 w W from by rw [HW.out]; exact (Below.refl w.heap.size w).alloc (Nat.le_refl _) _)
  have HQ := Lib.hid (show Blk W q 90 #[.pointer (some ⟨gd, 0, none⟩)] by rw [HW.out, HQE.out]; exact Blk.new w _ _)
  have HQL := Lib.hid (show w.heap.size ≤ q by rw [HQE.out]; exact Nat.le_refl _)
  have HBD := Lib.hid hd
  have hbd := Blk.below hd HB2.out hd.lt
  have HBW := Lib.hid (hB.trans (HB2.out.mono hB.size))
  have HD2 := Lib.hid hbd
  obtain ⟨d0, d1, d2, -, -, d8, d9, -⟩ := deed_cells hbd
  have Q0 : ∀ w', SB27 W w' → w'.cell? ⟨q, 0, none⟩ = some (.pointer (some ⟨gd, 0, none⟩)) := fun w' h => h.cell HQ.out rfl
  have D0 : ∀ w', SB27 W w' → w'.cell? ⟨gd, 0, none⟩ = some (.pointer (some ⟨gm, 0, none⟩)) := fun w' h => h.cell HD2.out rfl
  have D1 : ∀ w', SB27 W w' → w'.cell? ⟨gd, 1, none⟩ = some (.int .i64 g) := fun w' h => h.cell HD2.out rfl
  have C3 : ∀ w', SB27 W w' → w'.cell? ⟨gm, 3, none⟩ = some (.int .i64 M.holder) := fun w' h' => h'.cell (h.step HBW.out hs).head rfl
  have f9 := hbd.frozen 9
  have q0 : W.cell? ⟨q, 0, none⟩ = some (.pointer (some ⟨gd, 0, none⟩)) := (HQ.out.cell 0).trans rfl
  have HM := Lib.hid h
  have HS := Lib.hid hs
  have HG0 := Lib.hid hg0
  have HKP := Lib.hid (And.intro hk hp)
  clear h hs hk hp hd hg0 hB hbd
  have hsf : ∀ (a : Addr) (fn : Go.Fn) (first cap : Array Value) (md : Mode) (w : World), (store a (.func fn first cap) md).run Tryd.prog w = stored Tryd.prog w a (.func fn first cap) md := fun a fn first cap md w => run_store Tryd.prog w a _ md rfl
  by_cases hh : M.holder = g
  · have e1 : (M.holder == g) = true := by simpa using hh
    have HP := Lib.hid (show blockP M g k = (0, M) by unfold blockP; rw [if_pos hh])
    clear hh
    go_enter Tryd.func77, Tryd.ntmps77
    go_wp2_with (rw [← HW.out, ← HQE.out])
    refine region_calm (SB27 W) (by kernel_rfl) (by kernel_rfl) (Below.refl W.heap.size W).drew ?_
    repeat (first | go_big_quiet_skip | (go_big_quiet_want; first | (go_big_quiet_op; first | go_big_quiet_on | ((first | with_reducible refine ⟨_, fun _ _ => rfl, ?_⟩); go_big_quiet_on)) | (simp (contextual := true) [go_sem, Q0, D0, D1, C3]; with_reducible refine ⟨_, fun _ _ => rfl, ?_⟩; go_big_quiet_on)))
    refine wpQuiet_nil ?_
    intro W1 hw1
    have HQ := Lib.hid (HQ.out.below hw1 HQ.out.lt)
    have HBW := Lib.hid (HBW.out.trans (Below.mono hw1 HBW.out.size))
    have hbd := HD2.out.below hw1 HD2.out.lt
    have HD2 := Lib.hid hbd
    obtain ⟨d0, d1, d2, -, -, d8, d9, -⟩ := deed_cells hbd
    have f9 := hbd.frozen 9
    have q0 : W1.cell? ⟨q, 0, none⟩ = some (.pointer (some ⟨gd, 0, none⟩)) := (HQ.out.cell 0).trans rfl
    clear hbd Q0 D0 D1 C3 hw1
    go_wp2_with fail
    go_end0
    refine ⟨rfl, ?_⟩
    rw [HP.out]
    exact deed_nothing HM.out HS.out HD2.out HBW.out
  · have e1 : (M.holder == g) = false := by simpa using hh
    have HP := Lib.hid (show blockP M g k = (0, { M with l := M.l.set k { goAt M k with blk := !(goAt M k).tok, tok := false } }) by unfold blockP; rw [if_neg hh])
    clear hh
    go_enter Tryd.func77, Tryd.ntmps77
    go_wp2_with (rw [← HW.out, ← HQE.out])
    refine region_calm (SB27 W) (by kernel_rfl) (by kernel_rfl) (Below.refl W.heap.size W).drew ?_
    repeat (first | go_big_quiet_skip | (go_big_quiet_want; first | (go_big_quiet_op; first | go_big_quiet_on | ((first | with_reducible refine ⟨_, fun _ _ => rfl, ?_⟩); go_big_quiet_on)) | (simp (contextual := true) [go_sem, Q0, D0, D1, C3]; with_reducible refine ⟨_, fun _ _ => rfl, ?_⟩; go_big_quiet_on)))
    refine wpQuiet_nil ?_
    intro W1 hw1
    have HQ := Lib.hid (HQ.out.below hw1 HQ.out.lt)
    have HBW := Lib.hid (HBW.out.trans (Below.mono hw1 HBW.out.size))
    have hbd := HD2.out.below hw1 HD2.out.lt
    have HD2 := Lib.hid hbd
    obtain ⟨d0, d1, d2, -, -, d8, d9, -⟩ := deed_cells hbd
    have f9 := hbd.frozen 9
    have q0 : W1.cell? ⟨q, 0, none⟩ = some (.pointer (some ⟨gd, 0, none⟩)) := (HQ.out.cell 0).trans rfl
    clear hbd Q0 D0 D1 C3 hw1
    go_wp2_with fail
    go_end0
    refine ⟨rfl, ?_⟩
    rw [HP.out]
    refine deed_fn9 HD2.out HBW.out HG0.out 97 #[.pointer (some ⟨q, 0, none⟩)] (by kernel_rfl) fun w2 h2 hk2 hd2 => ?_
    have hz := HBD.out.lt
    have hz2 := HQL.out
    have hgm := HM.out.head.lt
    have hpp := HM.out.pl p (List.mem_of_getElem? HKP.out.2)
    have hg0 := HG0.out
    refine (block1_any (HM.out.step h2 HS.out) (Nat.le_trans HS.out h2.size) HKP.out.1 HKP.out.2 (hk2 q _ _ (by omega) HQ.out) hd2 rfl (by omega) (by omega)).mono ?_
    rintro e w3 ⟨he, hM3, hv⟩
    exact ⟨he, doneD_same hM3 hv (fun x hx => by rw [List.mem_singleton] at hx; rw [hx]; exact .inr (List.mem_of_getElem? HKP.out.2))⟩
end
end Go.Proofs.YtkfpnppppmccdaaDoor
namespace Go.Proofs.YtkfpnppppmccdaaDoor
open Go.RowKit
theorem truth_any (b : Bool) (w : World) : Calls Tryd.prog 93 #[.bool b] w fun e w' => e = .returned (.int .i64 (if b = true then 1 else 0)) ∧ w = w' := by
  cases b <;>
  · go_enter Tryd.func93, Tryd.ntmps93
    go_wp2_with fail
    go_ret
    exact ⟨rfl, rfl⟩
section
variable {w : World} {m gm : Nat} {F : Option Addr} {fc : Nat} {fs : List Fn} {M : Md} {ps : List Nat} {L : Option Addr} {c : Nat} {Bs : List (Option Addr × Nat)}
theorem self_any {w0 : World} (h : MdIs w0 m gm F fc fs M ps L c Bs) (hs : m ≤ w0.heap.size) {p gd : Nat} (g : Int) (i : Ins) (hd : Blk w gd 92 (deedArr gm g p i 0 51 #[])) (hg0 : w0.heap.size ≤ gd) (hB : Below w0.heap.size w0 w) :
    Calls Tryd.prog 73 #[.pointer (some ⟨gd, 0, none⟩)] w fun e w' => e = .returned (.tuple #[]) ∧ DeedOut m gm F fc fs ps L Bs w0 gd g p i (g, M) w' := by
  obtain ⟨d0, d1, d2, -, -, d8, d9, -⟩ := deed_cells hd
  have f8 := hd.frozen 8
  have HE := Lib.hid (deed_nothing h hs (hd.set_ 8 (.int .i64 g)) (hB.setCell (p := ⟨gd, 8, none⟩) hg0 _))
  clear h hs hd hg0 hB
  go_enter Tryd.func73, Tryd.ntmps73
  go_wp2_with fail
  go_end0
  exact ⟨rfl, HE.out⟩
set_option maxRecDepth 10000 in
set_option maxHeartbeats 2000000 in
theorem resize_any {w0 : World} (h : MdIs w0 m gm F fc fs M ps L c Bs) (hs : m ≤ w0.heap.size) {k p gd : Nat} (hk : k < M.l.length) (hp : ps[k]? = some p) (g : Int) (i : Ins) (a : Nat) (ha : i.a = a) (ha8 : a < 8) (hd : Blk w gd 92 (deedArr gm g p i 0 51 #[])) (hg0 : w0.heap.size ≤ gd) (hB : Below w0.heap.size w0 w) :
    Calls Tryd.prog 72 #[.pointer (some ⟨gd, 0, none⟩)] w fun e w' => e = .returned (.tuple #[]) ∧ DeedOut m gm F fc fs ps L Bs w0 gd g p i (resizeP M g k i) w' := by
  have G0 : ∀ w', SB27 w w' → w'.cell? ⟨gd, 0, none⟩ = some (.pointer (some ⟨gm, 0, none⟩)) := fun w' h => h.cell hd rfl
  have G1 : ∀ w', SB27 w w' → w'.cell? ⟨gd, 1, none⟩ = some (.int .i64 g) := fun w' h => h.cell hd rfl
  have G2 : ∀ w', SB27 w w' → w'.cell? ⟨gd, 2, none⟩ = some (.pointer (some ⟨p, 0, none⟩)) := fun w' h => h.cell hd rfl
  have G4 : ∀ w', SB27 w w' → w'.cell? ⟨gd, 4, none⟩ = some (.int .i64 (a : Int)) := fun w' h => by rw [← ha]; exact h.cell hd rfl
  have C3 : ∀ w', SB27 w w' → w'.cell? ⟨gm, 3, none⟩ = some (.int .i64 M.holder) := fun w' h' => h'.cell (h.step hB hs).head rfl
  have D8 : ∀ w', SB27 w w' → w'.cell? ⟨gd, 8, none⟩ = some (.int .i64 0) := fun w' h => h.cell hd rfl
  have HF8 := Lib.hid (fun (w' : World) (hw : SB27 w w') => (hd.below hw hd.lt).frozen 8)
  obtain ⟨r, HR⟩ : ∃ r, Hid (r = regA (goAt M k) i) := ⟨_, Lib.hid rfl⟩
  have GR : ∀ w', SB27 w w' → w'.cell? ⟨p, 2 + a, none⟩ = some (.int .i64 r) := fun w' hw => by
    obtain ⟨B, d, hb, hr⟩ := (h.step (hB.trans (Below.mono hw hB.size)) hs).blkAt hk hp
    rw [(go_cells hb hr).reg a ha8, HR.out]
    unfold regA
    rw [ha]
    rfl
  have HE := Lib.hid (fun (w' : World) (ans : Int) (hw : SB27 w w') => (deed_nothing h hs ((hd.below hw hd.lt).set_ 8 (.int .i64 ans)) ((hB.trans (Below.mono hw hB.size)).setCell (p := ⟨gd, 8, none⟩) hg0 _) : DeedOut m gm F fc fs ps L Bs w0 gd g p i (ans, M) _))
  have HP := Lib.hid (show resizeP M g k i = (if M.holder = g ∧ 1 ≤ r ∧ r ≤ 256 then 1 else 0, M) by unfold resizeP; rw [← HR.out])
  clear h hs hk hp ha hd hg0 hB
  have ha9 : (a : Int) < 8 := by omega
  have ha0 : (0 : Int) ≤ a := by omega
  go_enter Tryd.func72, Tryd.ntmps72
  go_wp2_with fail
  refine region_calm (SB27 w) (by kernel_rfl) (by kernel_rfl) (Below.refl w.heap.size w).drew ?_
  repeat (first | go_big_quiet_skip | (go_big_quiet_want; first | (go_big_quiet_op; first | go_big_quiet_on | ((first | with_reducible refine ⟨_, fun _ _ => rfl, ?_⟩); go_big_quiet_on)) | (simp (contextual := true) [go_sem, G2, G4, GR]; with_reducible refine ⟨_, fun _ _ => rfl, ?_⟩; go_big_quiet_on)))
  refine wpQuiet_nil ?_
  intro W hW
  obtain ⟨b, HBB⟩ : ∃ b : Bool, Hid (b = decide (M.holder = g ∧ 1 ≤ r ∧ r ≤ 256)) := ⟨_, Lib.hid rfl⟩
  have hb : (if M.holder = g ∧ 1 ≤ r ∧ r ≤ 256 then (1 : Int) else 0) = if b = true then 1 else 0 := by
    rw [HBB.out]
    by_cases hx : M.holder = g ∧ 1 ≤ r ∧ r ≤ 256
    · rw [if_pos hx, if_pos (decide_eq_true hx)]
    · rw [if_neg hx, if_neg (by simpa using hx)]
  rw [hb] at HP
  have HW := Lib.hid (show SB27 w W from hW)
  have HDW := Lib.hid (show SB27 w W.drew from Below.drew hW)
  clear hb hW
  by_cases h1 : M.holder = g
  · have e1 : (M.holder == g) = true := by simpa using h1
    by_cases h2 : 1 ≤ r
    · have e2 : decide (1 ≤ r) = true := by simpa using h2
      by_cases h3 : r ≤ 256
      · have e3 : decide (r ≤ 256) = true := by simpa using h3
        have eb : b = true := by rw [HBB.out]; simp [h1, h2, h3]
        subst eb
        clear h1 h2 h3 HBB
        go_wp2_with fail
        refine region_schE (SB27 w) [([0, 1, 2, 3, 4, 5, 6, 7, 8, 9, 10, 11, 12, 13, 14, 15, 16, 17, 18, 19, 20], 21)] [22, 23] 24 (by kernel_rfl) (by kernel_rfl) (by kernel_rfl) (fun _ _ d _ _ h => by cases d <;> exact h) HDW.out ?_
        (try simp only [Act.put, List.setIfInBounds_toArray, List.set_cons_zero, List.set_cons_succ]); refine schE_seg ?_; simp only [pickOps, List.getElem?_toArray, List.getElem?_cons_zero, List.getElem?_cons_succ]; (repeat (first | go_big_quiet_skip | (go_big_quiet_want; first | (go_big_quiet_op; first | go_big_quiet_on | ((first | with_reducible refine ⟨_, fun _ _ => rfl, ?_⟩); go_big_quiet_on)) | (simp (contextual := true) [go_sem, G0, G1, C3]; with_reducible refine ⟨_, fun _ _ => rfl, ?_⟩; go_big_quiet_on)))); refine wpQuiet_nil ?_
        go_wp2_with (go_at_call 93; refine (truth_any _ _).mono ?_; rintro e w1 ⟨rfl, rfl⟩)
        refine ⟨SB27 w, HDW.out, fun _ h => h, ?_⟩
        (try simp only [Act.put, List.setIfInBounds_toArray, List.set_cons_zero, List.set_cons_succ]); refine schE_last ?_; simp only [pickOps, List.getElem?_toArray, List.getElem?_cons_zero, List.getElem?_cons_succ]; (repeat (first | go_big_quiet_skip | (go_big_quiet_want; first | (go_big_quiet_op; first | go_big_quiet_on | ((first | with_reducible refine ⟨_, fun _ _ => rfl, ?_⟩); go_big_quiet_on)) | (simp (contextual := true) [go_sem, G0]; with_reducible refine ⟨_, fun _ _ => rfl, ?_⟩; go_big_quiet_on)))); refine wpQuiet_nil ?_
        have d8 := D8 _ HDW.out
        have f8 := HF8.out _ HDW.out
        clear G0 G1 G2 G4 C3 D8 GR
        go_wp2_with fail
        go_end0
        refine ⟨rfl, ?_⟩
        rw [HP.out]
        exact HE.out _ _ HDW.out
      · have e3 : decide (r ≤ 256) = false := by simpa using h3
        have eb : b = false := by rw [HBB.out]; simp [h1, h2, h3]
        subst eb
        clear h1 h2 h3 HBB
        go_wp2_with fail
        refine region_schE (SB27 w) [([0, 1, 2, 3, 4, 5, 6, 7, 8, 9, 10, 11, 12, 13, 14, 15, 16, 17, 18, 19, 20], 21)] [22, 23] 24 (by kernel_rfl) (by kernel_rfl) (by kernel_rfl) (fun _ _ d _ _ h => by cases d <;> exact h) HDW.out ?_
        (try simp only [Act.put, List.setIfInBounds_toArray, List.set_cons_zero, List.set_cons_succ]); refine schE_seg ?_; simp only [pickOps, List.getElem?_toArray, List.getElem?_cons_zero, List.getElem?_cons_succ]; (repeat (first | go_big_quiet_skip | (go_big_quiet_want; first | (go_big_quiet_op; first | go_big_quiet_on | ((first | with_reducible refine ⟨_, fun _ _ => rfl, ?_⟩); go_big_quiet_on)) | (simp (contextual := true) [go_sem, G0, G1, C3]; with_reducible refine ⟨_, fun _ _ => rfl, ?_⟩; go_big_quiet_on)))); refine wpQuiet_nil ?_
        go_wp2_with (go_at_call 93; refine (truth_any _ _).mono ?_; rintro e w1 ⟨rfl, rfl⟩)
        refine ⟨SB27 w, HDW.out, fun _ h => h, ?_⟩
        (try simp only [Act.put, List.setIfInBounds_toArray, List.set_cons_zero, List.set_cons_succ]); refine schE_last ?_; simp only [pickOps, List.getElem?_toArray, List.getElem?_cons_zero, List.getElem?_cons_succ]; (repeat (first | go_big_quiet_skip | (go_big_quiet_want; first | (go_big_quiet_op; first | go_big_quiet_on | ((first | with_reducible refine ⟨_, fun _ _ => rfl, ?_⟩); go_big_quiet_on)) | (simp (contextual := true) [go_sem, G0]; with_reducible refine ⟨_, fun _ _ => rfl, ?_⟩; go_big_quiet_on)))); refine wpQuiet_nil ?_
        have d8 := D8 _ HDW.out
        have f8 := HF8.out _ HDW.out
        clear G0 G1 G2 G4 C3 D8 GR
        go_wp2_with fail
        go_end0
        refine ⟨rfl, ?_⟩
        rw [HP.out]
        exact HE.out _ _ HDW.out
    · have e2 : decide (1 ≤ r) = false := by simpa using h2
      have eb : b = false := by rw [HBB.out]; simp [h1, h2]
      have e3 := e2
      subst eb
      clear h1 h2 HBB
      go_wp2_with fail
      refine region_schE (SB27 w) [([0, 1, 2, 3, 4, 5, 6, 7, 8, 9, 10, 11, 12, 13, 14, 15, 16, 17, 18, 19, 20], 21)] [22, 23] 24 (by kernel_rfl) (by kernel_rfl) (by kernel_rfl) (fun _ _ d _ _ h => by cases d <;> exact h) HDW.out ?_
      (try simp only [Act.put, List.setIfInBounds_toArray, List.set_cons_zero, List.set_cons_succ]); refine schE_seg ?_; simp only [pickOps, List.getElem?_toArray, List.getElem?_cons_zero, List.getElem?_cons_succ]; (repeat (first | go_big_quiet_skip | (go_big_quiet_want; first | (go_big_quiet_op; first | go_big_quiet_on | ((first | with_reducible refine ⟨_, fun _ _ => rfl, ?_⟩); go_big_quiet_on)) | (simp (contextual := true) [go_sem, G0, G1, C3]; with_reducible refine ⟨_, fun _ _ => rfl, ?_⟩; go_big_quiet_on)))); refine wpQuiet_nil ?_
      go_wp2_with (go_at_call 93; refine (truth_any _ _).mono ?_; rintro e w1 ⟨rfl, rfl⟩)
      refine ⟨SB27 w, HDW.out, fun _ h => h, ?_⟩
      (try simp only [Act.put, List.setIfInBounds_toArray, List.set_cons_zero, List.set_cons_succ]); refine schE_last ?_; simp only [pickOps, List.getElem?_toArray, List.getElem?_cons_zero, List.getElem?_cons_succ]; (repeat (first | go_big_quiet_skip | (go_big_quiet_want; first | (go_big_quiet_op; first | go_big_quiet_on | ((first | with_reducible refine ⟨_, fun _ _ => rfl, ?_⟩); go_big_quiet_on)) | (simp (contextual := true) [go_sem, G0]; with_reducible refine ⟨_, fun _ _ => rfl, ?_⟩; go_big_quiet_on)))); refine wpQuiet_nil ?_
      have d8 := D8 _ HDW.out
      have f8 := HF8.out _ HDW.out
      clear G0 G1 G2 G4 C3 D8 GR
      go_wp2_with fail
      go_end0
      refine ⟨rfl, ?_⟩
      rw [HP.out]
      exact HE.out _ _ HDW.out
  · have e1 : (M.holder == g) = false := by simpa using h1
    have eb : b = false := by rw [HBB.out]; simp [h1]
    have e2 := e1
    have e3 := e1
    subst eb
    clear h1 HBB
    go_wp2_with fail
    refine region_schE (SB27 w) [([0, 1, 2, 3, 4, 5, 6, 7, 8, 9, 10, 11, 12, 13, 14, 15, 16, 17, 18, 19, 20], 21)] [22, 23] 24 (by kernel_rfl) (by kernel_rfl) (by kernel_rfl) (fun _ _ d _ _ h => by cases d <;> exact h) HDW.out ?_
    (try simp only [Act.put, List.setIfInBounds_toArray, List.set_cons_zero, List.set_cons_succ]); refine schE_seg ?_; simp only [pickOps, List.getElem?_toArray, List.getElem?_cons_zero, List.getElem?_cons_succ]; (repeat (first | go_big_quiet_skip | (go_big_quiet_want; first | (go_big_quiet_op; first | go_big_quiet_on | ((first | with_reducible refine ⟨_, fun _ _ => rfl, ?_⟩); go_big_quiet_on)) | (simp (contextual := true) [go_sem, G0, G1, C3]; with_reducible refine ⟨_, fun _ _ => rfl, ?_⟩; go_big_quiet_on)))); refine wpQuiet_nil ?_
    go_wp2_with (go_at_call 93; refine (truth_any _ _).mono ?_; rintro e w1 ⟨rfl, rfl⟩)
    refine ⟨SB27 w, HDW.out, fun _ h => h, ?_⟩
    (try simp only [Act.put, List.setIfInBounds_toArray, List.set_cons_zero, List.set_cons_succ]); refine schE_last ?_; simp only [pickOps, List.getElem?_toArray, List.getElem?_cons_zero, List.getElem?_cons_succ]; (repeat (first | go_big_quiet_skip | (go_big_quiet_want; first | (go_big_quiet_op; first | go_big_quiet_on | ((first | with_reducible refine ⟨_, fun _ _ => rfl, ?_⟩); go_big_quiet_on)) | (simp (contextual := true) [go_sem, G0]; with_reducible refine ⟨_, fun _ _ => rfl, ?_⟩; go_big_quiet_on)))); refine wpQuiet_nil ?_
    have d8 := D8 _ HDW.out
    have f8 := HF8.out _ HDW.out
    clear G0 G1 G2 G4 C3 D8 GR
    go_wp2_with fail
    go_end0
    refine ⟨rfl, ?_⟩
    rw [HP.out]
    exact HE.out _ _ HDW.out
end
end Go.Proofs.YtkfpnppppmccdaaDoor
namespace Go.Proofs.YtkfpnppppmccdaaDoor
open Go.RowKit
section
variable {w : World} {m gm : Nat} {F : Option Addr} {fc : Nat} {fs : List Fn} {M : Md} {ps : List Nat} {L : Option Addr} {c : Nat} {Bs : List (Option Addr × Nat)}
set_option maxRecDepth 10000 in
set_option maxHeartbeats 2000000 in
theorem spawn_any {w0 : World} (h : MdIs w0 m gm F fc fs M ps L c Bs) (hs : m ≤ w0.heap.size) {k p gd : Nat} (hk : k < M.l.length) (hp : ps[k]? = some p) (g : Int) (i : Ins) (a : Nat) (ha : i.a = a) (ha8 : a < 8) (hfit : ∀ x, fitsT fs (newTh i.n x) = true) (hgs : M.gs ≤ 100) (hd : Blk w gd 92 (deedArr gm g p i 0 51 #[])) (hg0 : w0.heap.size ≤ gd) (hB : Below w0.heap.size w0 w) :
    Calls Tryd.prog 71 #[.pointer (some ⟨gd, 0, none⟩)] w fun e w' => e = .returned (.tuple #[]) ∧ DeedOut m gm F fc fs ps L Bs w0 gd g p i (spawnP M k i) w' := by
  obtain ⟨V, HV⟩ : ∃ W, Hid (W = w.alloc (.cells #[.pointer (some ⟨gd, 0, none⟩)] 90)) := ⟨_, Lib.hid rfl⟩
  obtain ⟨q, HQE⟩ : ∃ q, Hid (q = w.heap.size) := ⟨_, Lib.hid rfl⟩
  have HBV := Lib.hid (show SB27 w V from by rw [HV.out]; exact (Below.refl w.heap.size w).alloc (Nat.le_refl _) _)
  have HQV := Lib.hid (show Blk V q 90 #[.pointer (some ⟨gd, 0, none⟩)] by rw [HV.out, HQE.out]; exact Blk.new w _ _)
  have HGQ := Lib.hid (show gd < q by rw [HQE.out]; exact hd.lt)
  have hbd := Blk.below hd HBV.out hd.lt
  have d8 := (deed_cells hbd).2.2.2.2.2.1
  have f8 := hbd.frozen 8
  have q0 : V.cell? ⟨q, 0, none⟩ = some (.pointer (some ⟨gd, 0, none⟩)) := (HQV.out.cell 0).trans rfl
  obtain ⟨W, HW⟩ : ∃ W, Hid (W = V.setCell ⟨gd, 8, none⟩ (.int .i64 (-1))) := ⟨_, Lib.hid rfl⟩
  have HBW := Lib.hid (show Below w0.heap.size w0 W by rw [HW.out]; exact (hB.trans (HBV.out.mono hB.size)).setCell (p := ⟨gd, 8, none⟩) hg0 _)
  have HD2 := Lib.hid (show Blk W gd 92 (deedArr gm g p i (-1) 51 #[]) by rw [HW.out]; exact hbd.set_ 8 _)
  have HQ := Lib.hid (show Blk W q 90 #[.pointer (some ⟨gd, 0, none⟩)] by rw [HW.out]; exact HQV.out.far (by have := HGQ.out; show q ≠ gd; omega) _)
  obtain ⟨n, HN⟩ : ∃ n, Hid (n = ps.length) := ⟨_, Lib.hid rfl⟩
  have hn : n ≤ 100 := by rw [HN.out, h.lp]; exact h.few
  have Q0 : ∀ w', SB27 W w' → w'.cell? ⟨q, 0, none⟩ = some (.pointer (some ⟨gd, 0, none⟩)) := fun w' h => h.cell HQ.out rfl
  have G0 : ∀ w', SB27 W w' → w'.cell? ⟨gd, 0, none⟩ = some (.pointer (some ⟨gm, 0, none⟩)) := fun w' h => h.cell HD2.out rfl
  have G2 : ∀ w', SB27 W w' → w'.cell? ⟨gd, 2, none⟩ = some (.pointer (some ⟨p, 0, none⟩)) := fun w' h => h.cell HD2.out rfl
  have G4 : ∀ w', SB27 W w' → w'.cell? ⟨gd, 4, none⟩ = some (.int .i64 (a : Int)) := fun w' h => by rw [← ha]; exact h.cell HD2.out rfl
  have C1 : ∀ w', SB27 W w' → w'.cell? ⟨gm, 1, none⟩ = some (.int .i64 M.gs) := fun w' h' => h'.cell (h.step HBW.out hs).head rfl
  have C2 : ∀ w', SB27 W w' → w'.cell? ⟨gm, 2, none⟩ = some (.slice L n c) := fun w' h' => by rw [HN.out]; exact h'.cell (h.step HBW.out hs).head rfl
  obtain ⟨r, HR⟩ : ∃ r, Hid (r = regA (goAt M k) i) := ⟨_, Lib.hid rfl⟩
  have GR : ∀ w', SB27 W w' → w'.cell? ⟨p, 2 + a, none⟩ = some (.int .i64 r) := fun w' hw => by
    obtain ⟨B, d, hb, hr⟩ := (h.step (HBW.out.trans (Below.mono hw HBW.out.size)) hs).blkAt hk hp
    rw [(go_cells hb hr).reg a ha8, HR.out]
    unfold regA
    rw [ha]
    rfl
  have HM := Lib.hid h
  have HS := Lib.hid hs
  have HG0 := Lib.hid hg0
  have HF := Lib.hid (And.intro hfit hgs)
  have HLN := Lib.hid (show (n : Int) = M.l.length by rw [HN.out, h.lp])
  clear h hs hk hp ha hd hg0 hB hbd hfit hgs
  have hsf : ∀ (a : Addr) (fn : Go.Fn) (first cap : Array Value) (md : Mode) (w : World), (store a (.func fn first cap) md).run Tryd.prog w = stored Tryd.prog w a (.func fn first cap) md := fun a fn first cap md w => run_store Tryd.prog w a _ md rfl
  have ha9 : (a : Int) < 8 := by omega
  have ha0 : (0 : Int) ≤ a := by omega
  by_cases hlt : (n : Int) < M.gs
  · have e1 : decide ((n : Int) < M.gs) = true := by simpa using hlt
    have HP := Lib.hid (show spawnP M k i = ((n : Int) + 1, { M with l := M.l ++ [newGo i.n r] }) by unfold spawnP; rw [← HLN.out, if_pos hlt, ← HR.out])
    have HLT := Lib.hid hlt
    clear hlt
    go_enter Tryd.func71, Tryd.ntmps71
    go_wp2_with (rw [← HV.out, ← HQE.out])
    rw [← HW.out]
    refine region_calm (SB27 W) (by kernel_rfl) (by kernel_rfl) (Below.refl W.heap.size W).drew ?_
    repeat (first | go_big_quiet_skip | (go_big_quiet_want; first | (go_big_quiet_op; first | go_big_quiet_on | ((first | with_reducible refine ⟨_, fun _ _ => rfl, ?_⟩); go_big_quiet_on)) | (simp (contextual := true) [go_sem, Q0, G0, C1, C2]; with_reducible refine ⟨_, fun _ _ => rfl, ?_⟩; go_big_quiet_on)))
    refine wpQuiet_nil ?_
    intro W1 hw1
    have HW1 := Lib.hid (show SB27 W W1 from hw1)
    have HD1 := Lib.hid (show SB27 W W1.drew from Below.drew hw1)
    have hqa0 := hw1.size
    clear hw1
    go_wp2_with fail
    refine region_sch (SB27 W) [([0, 1, 2, 3, 4, 5, 6, 7, 8, 9, 10, 11, 12, 13], 14), ([], 15)] [] (by kernel_rfl) (by kernel_rfl) (by kernel_rfl) (fun _ _ d _ _ h => by cases d <;> exact h) HD1.out ?_
    (try simp only [Act.put, List.setIfInBounds_toArray, List.set_cons_zero, List.set_cons_succ]); refine sch_seg ?_; simp only [pickOps, List.getElem?_toArray, List.getElem?_cons_zero, List.getElem?_cons_succ]; (repeat (first | go_big_quiet_skip | (go_big_quiet_want; first | (go_big_quiet_op; first | go_big_quiet_on | ((first | with_reducible refine ⟨_, fun _ _ => rfl, ?_⟩); go_big_quiet_on)) | (simp (contextual := true) [go_sem, Q0, G2, G4, GR]; with_reducible refine ⟨_, fun _ _ => rfl, ?_⟩; go_big_quiet_on)))); refine wpQuiet_nil ?_
    go_wp2_with fail
    refine ⟨SB27 W, (show SB27 W (W1.alloc (.cells #[.int .i64 0] 2)).drew from (HW1.out.alloc HW1.out.size _).drew), fun _ h => h, ?_⟩
    (try simp only [Act.put, List.setIfInBounds_toArray, List.set_cons_zero, List.set_cons_succ]); refine sch_seg ?_; simp only [pickOps, List.getElem?_toArray, List.getElem?_cons_zero, List.getElem?_cons_succ]; (repeat (first | go_big_quiet_skip | (go_big_quiet_want; first | (go_big_quiet_op; first | go_big_quiet_on | ((first | with_reducible refine ⟨_, fun _ _ => rfl, ?_⟩); go_big_quiet_on)) | (simp (contextual := true) [go_sem, HD1]; with_reducible refine ⟨_, fun _ _ => rfl, ?_⟩; go_big_quiet_on)))); refine wpQuiet_nil ?_
    go_wp2_with fail
    have HQA := Lib.hid ((Blk.new W1 2 #[.int .i64 r]).drew)
    have HW2 := Lib.hid (show SB27 W (W1.alloc (.cells #[.int .i64 r] 2)).drew from (HW1.out.alloc HW1.out.size _).drew)
    obtain ⟨W2, HE2⟩ : ∃ X, Hid (X = (W1.alloc (.cells #[.int .i64 r] 2)).drew) := ⟨_, Lib.hid rfl⟩
    obtain ⟨qa, HEA⟩ : ∃ X, Hid (X = W1.heap.size) := ⟨_, Lib.hid rfl⟩
    have HQAL := Lib.hid (show W.heap.size ≤ qa by rw [HEA.out]; exact hqa0)
    rw [← HE2.out, ← HEA.out] at HQA
    rw [← HE2.out] at HW2
    rw [← HE2.out, ← HEA.out]
    refine ⟨SB27 W, HW2.out, fun _ h => h, ?_⟩
    (try simp only [Act.put, List.setIfInBounds_toArray, List.set_cons_zero, List.set_cons_succ]); refine sch_end ?_; simp only [pickOps]; (repeat (first | go_big_quiet_skip | (go_big_quiet_want; first | (go_big_quiet_op; first | go_big_quiet_on | ((first | with_reducible refine ⟨_, fun _ _ => rfl, ?_⟩); go_big_quiet_on)) | (simp (contextual := true) [go_sem, HD1]; with_reducible refine ⟨_, fun _ _ => rfl, ?_⟩; go_big_quiet_on)))); refine wpQuiet_nil ?_
    have HD2' := Lib.hid (show SB27 W W2.drew from Below.drew HW2.out)
    clear hqa0 HE2 HEA
    go_wp2_with fail
    refine region_schE (SB27 W) [] [0, 1, 2, 3, 4, 5, 6, 7, 8, 9, 10, 11] 12 (by kernel_rfl) (by kernel_rfl) (by kernel_rfl) (fun _ _ d _ _ h => by cases d <;> exact h) HD2'.out ?_
    (try simp only [Act.put, List.setIfInBounds_toArray, List.set_cons_zero, List.set_cons_succ]); refine schE_last ?_; simp only [pickOps, List.getElem?_toArray, List.getElem?_cons_zero, List.getElem?_cons_succ]; (repeat (first | go_big_quiet_skip | (go_big_quiet_want; first | (go_big_quiet_op; first | go_big_quiet_on | ((first | with_reducible refine ⟨_, fun _ _ => rfl, ?_⟩); go_big_quiet_on)) | (simp (contextual := true) [go_sem, Q0, G0, C2]; with_reducible refine ⟨_, fun _ _ => rfl, ?_⟩; go_big_quiet_on)))); refine wpQuiet_nil ?_
    have hb2 := HD2.out.below HD2'.out HD2.out.lt
    have hb2' := HD2.out.below HW2.out HD2.out.lt
    have d8 := (deed_cells hb2).2.2.2.2.2.1
    have f8 := hb2.frozen 8
    have HB2 := Lib.hid hb2
    have HQ2 := Lib.hid (HQ.out.below HW2.out HQ.out.lt)
    have HD3 := Lib.hid (show Blk (W2.setCell ⟨gd, 8, none⟩ (.int .i64 ((n : Int) + 1))).drew gd 92 (deedArr gm g p i ((n : Int) + 1) 51 #[]) from (hb2'.set_ 8 _).drew)
    have d9 := (deed_cells HD3.out).2.2.2.2.2.2.1
    have f9 := HD3.out.frozen 9
    have q1 : (W2.setCell ⟨gd, 8, none⟩ (.int .i64 ((n : Int) + 1))).drew.cell? ⟨q, 0, none⟩ = some (.pointer (some ⟨gd, 0, none⟩)) := ((HQ2.out.far (p := ⟨gd, 8, none⟩) (by have := HGQ.out; show q ≠ gd; omega) _).drew.cell 0).trans rfl
    clear Q0 G0 G2 G4 C1 C2 GR hb2 hb2'
    obtain ⟨W3, HW3⟩ : ∃ X, Hid (X = (W2.setCell ⟨gd, 8, none⟩ (.int .i64 ((n : Int) + 1))).drew) := ⟨_, Lib.hid rfl⟩
    rw [← HW3.out] at HD3 d9 f9 q1
    go_wp2_with (rw [← HW3.out])
    go_end0
    refine ⟨rfl, ?_⟩
    rw [HP.out]
    have hg0 := HG0.out
    have hgq := HGQ.out
    have hz := HQ.out.lt
    have hqal := HQAL.out
    have hwd := HD2'.out.size
    have hgd := HD2.out.lt
    refine deed_fn9 HD3.out (by rw [HW3.out]; exact ((HBW.out.trans (Below.mono HW2.out HBW.out.size)).setCell (p := ⟨gd, 8, none⟩) HG0.out _).drew) HG0.out 92 #[.pointer (some ⟨q, 0, none⟩), .pointer (some ⟨qa, 0, none⟩)] (by kernel_rfl) fun w2 h2 hk2 hd2 => ?_
    have hLl := HM.out.Ll
    refine (spawn1_any (HM.out.step h2 HS.out) (Nat.le_trans HS.out h2.size) (hk2 q _ _ (by omega) (by rw [HW3.out]; exact (HQ2.out.far (p := ⟨gd, 8, none⟩) (by show q ≠ gd; omega) _).drew)) (hk2 qa _ _ (by omega) (by rw [HW3.out]; exact (HQA.out.far (p := ⟨gd, 8, none⟩) (by show qa ≠ gd; omega) _).drew)) hd2 rfl rfl (fun e => by have := hLl _ e; omega) (fun e => by have := hLl _ e; omega) (fun e => by have := hLl _ e; omega) (HF.out.1 r) (by have h1 := HLN.out; have h2 := HF.out.2; have h3 := HLT.out; omega)).mono ?_
    rintro e w3 ⟨he, pn, A', c', hM3, hv, hpn, hat⟩
    refine ⟨he, [pn], A', c', _, hM3, by simpa using hpn, hat.imp id (fun ⟨b, e, hb⟩ => ⟨b, e, by omega⟩), hv.mono (fun x hx _ => by
      rcases List.mem_cons.1 hx with e | hx
      · rw [e]; simp
      · simp [List.mem_append, hx]), fun p hp b hb => by
        rcases List.mem_append.1 hp with hp | hp
        · exact .inl ⟨p, hp, hb⟩
        · rw [List.mem_singleton] at hp
          subst hp
          cases hb⟩
  · have e1 : decide ((n : Int) < M.gs) = false := by simpa using hlt
    have HP := Lib.hid (show spawnP M k i = (-1, M) by unfold spawnP; rw [← HLN.out, if_neg hlt])
    clear hlt
    go_enter Tryd.func71, Tryd.ntmps71
    go_wp2_with (rw [← HV.out, ← HQE.out])
    rw [← HW.out]
    refine region_calm (SB27 W) (by kernel_rfl) (by kernel_rfl) (Below.refl W.heap.size W).drew ?_
    repeat (first | go_big_quiet_skip | (go_big_quiet_want; first | (go_big_quiet_op; first | go_big_quiet_on | ((first | with_reducible refine ⟨_, fun _ _ => rfl, ?_⟩); go_big_quiet_on)) | (simp (contextual := true) [go_sem, Q0, G0, C1, C2]; with_reducible refine ⟨_, fun _ _ => rfl, ?_⟩; go_big_quiet_on)))
    refine wpQuiet_nil ?_
    intro W1 hw1
    go_wp2_with fail
    go_end0
    refine ⟨rfl, ?_⟩
    rw [HP.out]
    exact deed_nothing HM.out HS.out (HD2.out.below hw1 HD2.out.lt) (HBW.out.trans (Below.mono hw1 HBW.out.size))
end
end Go.Proofs.YtkfpnppppmccdaaDoor
namespace Go.Proofs.YtkfpnppppmccdaaDoor
open Go.RowKit
/-- By which method a deed is found. -/
def howF (op : Int) : Option Nat :=
  if op = 20 then some 68 else if op = 21 then some 69 else if op = 13 then some 70 else if op = 10 then some 71 else if op = 22 then some 72 else if op = 23 then some 73 else if op = 17 then some 74 else if op = 18 then some 75 else if op = 19 then some 76 else if op = 12 then some 77 else none
def howV (op : Int) : Value := match howF op with
  | none => .nilFunc
  | some f => .func (.func f) #[] #[]
/-- What an instruction does and answers. -/
def deedP (M : Md) (g : Int) (k : Nat) (i : Ins) : Int × Md :=
  if i.op = 20 then suspP M k i else if i.op = 21 then resuP M k i else if i.op = 13 then readyP M k i else if i.op = 10 then spawnP M k i else if i.op = 22 then resizeP M g k i else if i.op = 23 then (g, M) else if i.op = 17 then stopP M g else if i.op = 18 then startP M g else if i.op = 19 then barrP M g else if i.op = 12 then blockP M g k else (0, M)
set_option maxRecDepth 10000 in
theorem how_any (op : Int) (w : World) : Calls Tryd.prog 52 #[.int .i64 op] w fun e w' => e = .returned (howV op) ∧ w = w' := by
  by_cases h20 : op = 20
  · subst h20
    rw [show howV 20 = .func (.func 68) #[] #[] from rfl]
    go_enter Tryd.func52, Tryd.ntmps52
    go_wp2_with fail
    go_ret
    exact ⟨rfl, rfl⟩
  have e20 : (op == 20) = false := by simpa using h20
  by_cases h21 : op = 21
  · subst h21
    rw [show howV 21 = .func (.func 69) #[] #[] from rfl]
    go_enter Tryd.func52, Tryd.ntmps52
    go_wp2_with fail
    go_ret
    exact ⟨rfl, rfl⟩
  have e21 : (op == 21) = false := by simpa using h21
  by_cases h13 : op = 13
  · subst h13
    rw [show howV 13 = .func (.func 70) #[] #[] from rfl]
    go_enter Tryd.func52, Tryd.ntmps52
    go_wp2_with fail
    go_ret
    exact ⟨rfl, rfl⟩
  have e13 : (op == 13) = false := by simpa using h13
  by_cases h10 : op = 10
  · subst h10
    rw [show howV 10 = .func (.func 71) #[] #[] from rfl]
    go_enter Tryd.func52, Tryd.ntmps52
    go_wp2_with fail
    go_ret
    exact ⟨rfl, rfl⟩
  have e10 : (op == 10) = false := by simpa using h10
  by_cases h22 : op = 22
  · subst h22
    rw [show howV 22 = .func (.func 72) #[] #[] from rfl]
    go_enter Tryd.func52, Tryd.ntmps52
    go_wp2_with fail
    go_ret
    exact ⟨rfl, rfl⟩
  have e22 : (op == 22) = false := by simpa using h22
  by_cases h23 : op = 23
  · subst h23
    rw [show howV 23 = .func (.func 73) #[] #[] from rfl]
    go_enter Tryd.func52, Tryd.ntmps52
    go_wp2_with fail
    go_ret
    exact ⟨rfl, rfl⟩
  have e23 : (op == 23) = false := by simpa using h23
  by_cases h17 : op = 17
  · subst h17
    rw [show howV 17 = .func (.func 74) #[] #[] from rfl]
    go_enter Tryd.func52, Tryd.ntmps52
    go_wp2_with fail
    go_ret
    exact ⟨rfl, rfl⟩
  have e17 : (op == 17) = false := by simpa using h17
  by_cases h18 : op = 18
  · subst h18
    rw [show howV 18 = .func (.func 75) #[] #[] from rfl]
    go_enter Tryd.func52, Tryd.ntmps52
    go_wp2_with fail
    go_ret
    exact ⟨rfl, rfl⟩
  have e18 : (op == 18) = false := by simpa using h18
  by_cases h19 : op = 19
  · subst h19
    rw [show howV 19 = .func (.func 76) #[] #[] from rfl]
    go_enter Tryd.func52, Tryd.ntmps52
    go_wp2_with fail
    go_ret
    exact ⟨rfl, rfl⟩
  have e19 : (op == 19) = false := by simpa using h19
  by_cases h12 : op = 12
  · subst h12
    rw [show howV 12 = .func (.func 77) #[] #[] from rfl]
    go_enter Tryd.func52, Tryd.ntmps52
    go_wp2_with fail
    go_ret
    exact ⟨rfl, rfl⟩
  have e12 : (op == 12) = false := by simpa using h12
  rw [show howV op = .nilFunc by unfold howV howF; rw [if_neg h20, if_neg h21, if_neg h13, if_neg h10, if_neg h22, if_neg h23, if_neg h17, if_neg h18, if_neg h19, if_neg h12]]
  clear h20 h21 h13 h10 h22 h23 h17 h18 h19 h12
  go_enter Tryd.func52, Tryd.ntmps52
  go_wp2_with fail
  go_ret
  exact ⟨rfl, rfl⟩
section
variable {w : World} {m gm : Nat} {F : Option Addr} {fc : Nat} {fs : List Fn} {M : Md} {ps : List Nat} {L : Option Addr} {c : Nat} {Bs : List (Option Addr × Nat)}
theorem deed_any {w0 : World} (h : MdIs w0 m gm F fc fs M ps L c Bs) (hs : m ≤ w0.heap.size) {k p gd : Nat} (hk : k < M.l.length) (hp : ps[k]? = some p) (g : Int) (i : Ins) (a : Nat) (ha : i.a = a) (ha8 : a < 8) (hfit : i.op = 10 → ∀ x, fitsT fs (newTh i.n x) = true) (hgs : M.gs ≤ 100) (hd : Blk w gd 92 (deedArr gm g p i 0 51 #[])) (hg0 : w0.heap.size ≤ gd) (hB : Below w0.heap.size w0 w) :
    (howF i.op = none ∧ DeedOut m gm F fc fs ps L Bs w0 gd g p i (deedP M g k i) w) ∨ ∃ f, howF i.op = some f ∧ goFn Tryd.prog f = true ∧ Calls Tryd.prog f #[.pointer (some ⟨gd, 0, none⟩)] w fun e w' => e = .returned (.tuple #[]) ∧ DeedOut m gm F fc fs ps L Bs w0 gd g p i (deedP M g k i) w' := by
  unfold howF deedP
  by_cases h20 : i.op = 20
  · rw [if_pos h20, if_pos h20]
    exact .inr ⟨_, rfl, by kernel_rfl, suspend_any h hs hk hp g i a ha ha8 hd hg0 hB⟩
  rw [if_neg h20, if_neg h20]
  by_cases h21 : i.op = 21
  · rw [if_pos h21, if_pos h21]
    exact .inr ⟨_, rfl, by kernel_rfl, resume_any h hs hk hp g i a ha ha8 hd hg0 hB⟩
  rw [if_neg h21, if_neg h21]
  by_cases h13 : i.op = 13
  · rw [if_pos h13, if_pos h13]
    exact .inr ⟨_, rfl, by kernel_rfl, ready_any h hs hk hp g i a ha ha8 hd hg0 hB⟩
  rw [if_neg h13, if_neg h13]
  by_cases h10 : i.op = 10
  · rw [if_pos h10, if_pos h10]
    exact .inr ⟨_, rfl, by kernel_rfl, spawn_any h hs hk hp g i a ha ha8 (hfit h10) hgs hd hg0 hB⟩
  rw [if_neg h10, if_neg h10]
  by_cases h22 : i.op = 22
  · rw [if_pos h22, if_pos h22]
    exact .inr ⟨_, rfl, by kernel_rfl, resize_any h hs hk hp g i a ha ha8 hd hg0 hB⟩
  rw [if_neg h22, if_neg h22]
  by_cases h23 : i.op = 23
  · rw [if_pos h23, if_pos h23]
    exact .inr ⟨_, rfl, by kernel_rfl, self_any h hs g i hd hg0 hB⟩
  rw [if_neg h23, if_neg h23]
  by_cases h17 : i.op = 17
  · rw [if_pos h17, if_pos h17]
    exact .inr ⟨_, rfl, by kernel_rfl, stop_any h hs hk hp g i hd hg0 hB⟩
  rw [if_neg h17, if_neg h17]
  by_cases h18 : i.op = 18
  · rw [if_pos h18, if_pos h18]
    exact .inr ⟨_, rfl, by kernel_rfl, start_any h hs hk hp g i hd hg0 hB⟩
  rw [if_neg h18, if_neg h18]
  by_cases h19 : i.op = 19
  · rw [if_pos h19, if_pos h19]
    exact .inr ⟨_, rfl, by kernel_rfl, barrier_any h hs hk hp g i hd hg0 hB⟩
  rw [if_neg h19, if_neg h19]
  by_cases h12 : i.op = 12
  · rw [if_pos h12, if_pos h12]
    exact .inr ⟨_, rfl, by kernel_rfl, block_any h hs hk hp g i hd hg0 hB⟩
  rw [if_neg h12, if_neg h12]
  exact .inl ⟨rfl, deed_nothing h hs hd hB⟩
end
end Go.Proofs.YtkfpnppppmccdaaDoor

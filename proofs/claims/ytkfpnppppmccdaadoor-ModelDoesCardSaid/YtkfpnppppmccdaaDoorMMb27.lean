/-
  Chapter 27: the closures of start and block.
-/
import Derived.Test.YtkfpnppppmccdaaDoorMMa27
import Derived.Test.YtkfpnppppmccdaaDoorSchE
namespace Go.Proofs.YtkfpnppppmccdaaDoor
open Go.RowKit
def goneM (M : Md) (g : Int) : Md := { M with holder := if M.holder = g then 0 else M.holder, owner := if M.owner = g then 0 else M.owner }
section
variable {w : World} {m gm : Nat} {F : Option Addr} {fc : Nat} {fs : List Fn} {M : Md} {ps : List Nat} {L : Option Addr} {c : Nat} {Bs : List (Option Addr × Nat)}
theorem gone_fin (h : MdIs w m gm F fc fs M ps L c Bs) (hs : m ≤ w.heap.size) (w' : World) {g : Int} (ho ow : Int) (hm : Mv [gm] w w') (hb : Blk w' gm 71 #[.slice F fs.length fc, .int .i64 M.gs, .slice L ps.length c, .int .i64 ho, .int .i64 ow])
    (h1 : (if M.holder = g then 0 else M.holder) = ho) (h2 : (if M.owner = g then 0 else M.owner) = ow) : MdIs w' m gm F fc fs (goneM M g) ps L c Bs := by
  have := h.setHead hs ho ow hm hb
  unfold goneM
  rw [h1, h2]
  exact this
theorem gone_any (h : MdIs w m gm F fc fs M ps L c Bs) (hs : m ≤ w.heap.size) (g : Int) :
    Calls Tryd.prog 54 #[.pointer (some ⟨gm, 0, none⟩), .int .i64 g] w fun e w' => e = .returned (.tuple #[]) ∧ MdIs w' m gm F fc fs (goneM M g) ps L c Bs ∧ Mv [gm] w w' := by
  have HM := Lib.hid h
  have HH := Lib.hid h.head
  obtain ⟨-, -, -, q3, q4⟩ := h.five
  have f3 := h.head.frozen 3
  have f4 := h.head.frozen 4
  clear h
  by_cases h1 : M.holder = g
  · have e1 : (M.holder == g) = true := by simpa using h1
    by_cases h2 : M.owner = g
    · have e2 : (M.owner == g) = true := by simpa using h2
      have HB := Lib.hid (((((HH.out).set_ 3 (.int .i64 0))).set_ 4 (.int .i64 0)))
      have HX := Lib.hid (And.intro h1 h2)
      clear h1 h2
      go_enter Tryd.func54, Tryd.ntmps54
      go_wp2_with fail
      go_end0
      exact ⟨rfl, gone_fin HM.out hs _ 0 0 (((Mv.refl _ _).set _ _ (by simp)).set _ _ (by simp)) HB.out (if_pos HX.out.1) (if_pos HX.out.2), (((Mv.refl _ _).set _ _ (by simp)).set _ _ (by simp))⟩
    · have e2 : (M.owner == g) = false := by simpa using h2
      have HB := Lib.hid (((HH.out).set_ 3 (.int .i64 0)))
      have HX := Lib.hid (And.intro h1 h2)
      clear h1 h2
      go_enter Tryd.func54, Tryd.ntmps54
      go_wp2_with fail
      go_end0
      exact ⟨rfl, gone_fin HM.out hs _ 0 M.owner ((Mv.refl _ _).set _ _ (by simp)) HB.out (if_pos HX.out.1) (if_neg HX.out.2), ((Mv.refl _ _).set _ _ (by simp))⟩
  · have e1 : (M.holder == g) = false := by simpa using h1
    by_cases h2 : M.owner = g
    · have e2 : (M.owner == g) = true := by simpa using h2
      have HB := Lib.hid (((HH.out).set_ 4 (.int .i64 0)))
      have HX := Lib.hid (And.intro h1 h2)
      clear h1 h2
      go_enter Tryd.func54, Tryd.ntmps54
      go_wp2_with fail
      go_end0
      exact ⟨rfl, gone_fin HM.out hs _ M.holder 0 ((Mv.refl _ _).set _ _ (by simp)) HB.out (if_neg HX.out.1) (if_pos HX.out.2), ((Mv.refl _ _).set _ _ (by simp))⟩
    · have e2 : (M.owner == g) = false := by simpa using h2
      have HB := Lib.hid (HH.out)
      have HX := Lib.hid (And.intro h1 h2)
      clear h1 h2
      go_enter Tryd.func54, Tryd.ntmps54
      go_wp2_with fail
      go_end0
      exact ⟨rfl, gone_fin HM.out hs _ M.holder M.owner (Mv.refl _ _) HB.out (if_neg HX.out.1) (if_neg HX.out.2), (Mv.refl _ _)⟩
end
end Go.Proofs.YtkfpnppppmccdaaDoor
namespace Go.Proofs.YtkfpnppppmccdaaDoor
open Go.RowKit
theorem goArr_flag (x : Go) (B : Option Addr) (d : Nat) (h : x.th.regs.length = 8) (v : Bool) :
    (goArr x B d).setIfInBounds 12 (.bool v) = goArr { x with blk := v } B d ∧ (goArr x B d).setIfInBounds 13 (.bool v) = goArr { x with tok := v } B d ∧ (goArr x B d).setIfInBounds 14 (.bool v) = goArr { x with sus := v } B d ∧ (goArr x B d).setIfInBounds 15 (.bool v) = goArr { x with beg := v } B d := by
  have hs := thArr_size B d h
  have hl : (thArr x.th B d).toList.length = 12 := by simpa using hs
  unfold goArr
  simp only [List.setIfInBounds_toArray]
  refine ⟨?_, ?_, ?_, ?_⟩ <;>
  · rw [List.set_append_right _ _ (by omega), hl]
    rfl
section
variable {w : World} {m gm : Nat} {F : Option Addr} {fc : Nat} {fs : List Fn} {M : Md} {ps : List Nat} {L : Option Addr} {c : Nat} {Bs : List (Option Addr × Nat)}
/-- A goroutine is changed, but for its thread. -/
theorem MdIs.flag (h : MdIs w m gm F fc fs M ps L c Bs) (hs : m ≤ w.heap.size) {k p : Nat} (hk : k < M.l.length) (hp : ps[k]? = some p) (x' : Go) (hth : x'.th = (goAt M k).th) {w' : World} (hm : Mv [p] w w')
    (hb : ∀ B d, Blk w p 68 (goArr (goAt M k) B d) → Blk w' p 68 (goArr x' B d)) : MdIs w' m gm F fc fs { M with l := M.l.set k x' } ps L c Bs := by
  have hlp := h.lp
  have hlb := h.lb
  have hpk : ps[k]'(by omega) = p := by
    rw [List.getElem?_eq_getElem (by omega)] at hp
    injection hp
  have hpm : p ∈ ps := by rw [← hpk]; exact List.getElem_mem _
  have hx := goAt_eq hk
  have hmem := h.mem k hk
  rw [hpk, ← hx] at hmem
  have hfar := h.far k hk
  have ht := thok_mv (h.th k hk) hm (fun hx b hb' => by
    rw [List.mem_singleton]
    intro e
    exact (hfar hx b hb').2.1 (e ▸ hpm))
  rw [← hx, ← hth] at ht
  have hfit := h.fits k hk
  rw [← hx, ← hth] at hfit
  have hst := h.stk k hk
  rw [← hx, ← hth] at hst
  have := h.setGo hs hk hp x' _ _ hm (hb _ _ hmem) ht (fun h0 => hfar (by rw [← hx, ← hth]; exact h0)) hfit hst
  rw [show (((Bs[k]'(by omega)).1, (Bs[k]'(by omega)).2) : Option Addr × Nat) = Bs[k]'(by omega) from rfl, List.set_getElem_self] at this
  exact this
/-- What a deed knows. -/
def deedArr (gm : Nat) (g : Int) (p : Nat) (i : Ins) (ans : Int) (fid : Nat) (caps : Array Value) : Array Value := #[.pointer (some ⟨gm, 0, none⟩), .int .i64 g, .pointer (some ⟨p, 0, none⟩), .int .i64 i.op, .int .i64 i.a, .int .i64 i.b, .int .i64 i.c, .int .i64 i.n, .int .i64 ans, .func (.func fid) #[] caps]
theorem MdIs.blkAt (h : MdIs w m gm F fc fs M ps L c Bs) {k p : Nat} (hk : k < M.l.length) (hp : ps[k]? = some p) : ∃ B d, Blk w p 68 (goArr (goAt M k) B d) ∧ (goAt M k).th.regs.length = 8 := by
  have hlp := h.lp
  have hpk : ps[k]'(by omega) = p := by
    rw [List.getElem?_eq_getElem (by omega)] at hp
    injection hp
  have h1 := h.mem k hk
  rw [hpk, ← goAt_eq hk] at h1
  exact ⟨_, _, h1, by rw [goAt_eq hk]; exact (h.th k hk).regs⟩
theorem susp1_any (h : MdIs w m gm F fc fs M ps L c Bs) (hs : m ≤ w.heap.size) {t pt q : Nat} (ht : t < M.l.length) (hp : ps[t]? = some pt) (hq : Blk w q 65 #[.pointer (some ⟨pt, 0, none⟩)]) :
    Calls Tryd.prog 89 #[.pointer (some ⟨q, 0, none⟩)] w fun e w' => e = .returned (.tuple #[]) ∧ MdIs w' m gm F fc fs { M with l := M.l.set t { goAt M t with sus := true } } ps L c Bs ∧ Mv [pt] w w' := by
  obtain ⟨B, d, hb, hr⟩ := h.blkAt ht hp
  have q0 : w.cell? ⟨q, 0, none⟩ = some (.pointer (some ⟨pt, 0, none⟩)) := (hq.cell 0).trans rfl
  have s14 := (go_cells hb hr).sus
  have f14 := hb.frozen 14
  have hv : Mv [pt] w (w.setCell ⟨pt, 14, none⟩ (.bool true)) := (Mv.refl _ _).set _ _ (by simp)
  have HVtrue := Lib.hid hv
  have HNtrue := Lib.hid (h.flag hs ht hp { goAt M t with sus := true } rfl hv (fun B d hb => by rw [← (goArr_flag _ B d hr true).2.2.1]; exact hb.set_ 14 _))
  clear h hb hr hp hq hv
  go_enter Tryd.func89, Tryd.ntmps89
  go_wp2_with fail
  go_end0
  exact ⟨rfl, HNtrue.out, HVtrue.out⟩
theorem resu1_any (h : MdIs w m gm F fc fs M ps L c Bs) (hs : m ≤ w.heap.size) {t pt q : Nat} (ht : t < M.l.length) (hp : ps[t]? = some pt) (hq : Blk w q 65 #[.pointer (some ⟨pt, 0, none⟩)]) :
    Calls Tryd.prog 90 #[.pointer (some ⟨q, 0, none⟩)] w fun e w' => e = .returned (.tuple #[]) ∧ MdIs w' m gm F fc fs { M with l := M.l.set t { goAt M t with sus := false } } ps L c Bs ∧ Mv [pt] w w' := by
  obtain ⟨B, d, hb, hr⟩ := h.blkAt ht hp
  have q0 : w.cell? ⟨q, 0, none⟩ = some (.pointer (some ⟨pt, 0, none⟩)) := (hq.cell 0).trans rfl
  have s14 := (go_cells hb hr).sus
  have f14 := hb.frozen 14
  have hv : Mv [pt] w (w.setCell ⟨pt, 14, none⟩ (.bool false)) := (Mv.refl _ _).set _ _ (by simp)
  have HVfalse := Lib.hid hv
  have HNfalse := Lib.hid (h.flag hs ht hp { goAt M t with sus := false } rfl hv (fun B d hb => by rw [← (goArr_flag _ B d hr false).2.2.1]; exact hb.set_ 14 _))
  clear h hb hr hp hq hv
  go_enter Tryd.func90, Tryd.ntmps90
  go_wp2_with fail
  go_end0
  exact ⟨rfl, HNfalse.out, HVfalse.out⟩
end
end Go.Proofs.YtkfpnppppmccdaaDoor
namespace Go.Proofs.YtkfpnppppmccdaaDoor
open Go.RowKit
section
variable {w : World} {m gm : Nat} {F : Option Addr} {fc : Nat} {fs : List Fn} {M : Md} {ps : List Nat} {L : Option Addr} {c : Nat} {Bs : List (Option Addr × Nat)}
theorem SB27.cell {w w' : World} (h : SB27 w w') {g : Nat} {t : TypeId} {cs : Array Value} (hb : Blk w g t cs) {i : Nat} {v : Value} (hc : cs[i]? = some v) : w'.cell? ⟨g, i, none⟩ = some v := (Below.cell (p := ⟨g, i, none⟩) h hb.lt).trans ((hb.cell i).trans hc)
theorem ready1_any (h : MdIs w m gm F fc fs M ps L c Bs) (hs : m ≤ w.heap.size) {t pt q : Nat} (ht : t < M.l.length) (hp : ps[t]? = some pt) (hq : Blk w q 65 #[.pointer (some ⟨pt, 0, none⟩)]) :
    Calls Tryd.prog 91 #[.pointer (some ⟨q, 0, none⟩)] w fun e w' => e = .returned (.tuple #[]) ∧ MdIs w' m gm F fc fs { M with l := M.l.set t { goAt M t with tok := (goAt M t).tok || !(goAt M t).blk, blk := false } } ps L c Bs ∧ Mv [pt] w w' := by
  obtain ⟨B, d, hb, hr⟩ := h.blkAt ht hp
  have q0 : w.cell? ⟨q, 0, none⟩ = some (.pointer (some ⟨pt, 0, none⟩)) := (hq.cell 0).trans rfl
  have s12 := (go_cells hb hr).blk
  have s13 := (go_cells hb hr).tok
  have f12 := hb.frozen 12
  have f13 := hb.frozen 13
  have HM := Lib.hid h
  have HR := Lib.hid hr
  have HP := Lib.hid hp
  cases hbl : (goAt M t).blk with
  | true =>
    rw [hbl] at s12
    have hv : Mv [pt] w (w.setCell ⟨pt, 12, none⟩ (.bool false)) := (Mv.refl _ _).set _ _ (by simp)
    have HV := Lib.hid hv
    have HN := Lib.hid (h.flag hs ht hp { goAt M t with blk := false } rfl hv (fun B d hb => by
      rw [← (goArr_flag (goAt M t) B d hr false).1]
      exact hb.set_ 12 _))
    clear h hb hr hp hq hv hbl
    go_enter Tryd.func91, Tryd.ntmps91
    go_wp2_with fail
    go_end0
    exact ⟨rfl, HN.out, HV.out⟩
  | false =>
    rw [hbl] at s12
    have hv : Mv [pt] w ((w.setCell ⟨pt, 13, none⟩ (.bool true)).setCell ⟨pt, 12, none⟩ (.bool false)) := ((Mv.refl _ _).set _ _ (by simp)).set _ _ (by simp)
    have HV := Lib.hid hv
    have HN := Lib.hid (h.flag hs ht hp { goAt M t with tok := true, blk := false } rfl hv (fun B d hb => by
      rw [← (goArr_flag { goAt M t with tok := true } B d hr false).1, ← (goArr_flag (goAt M t) B d hr true).2.1]
      exact (hb.set_ 13 _).set_ 12 _))
    clear h hb hr hp hq hv hbl
    go_enter Tryd.func91, Tryd.ntmps91
    go_wp2_with fail
    go_end0
    exact ⟨rfl, HN.out, HV.out⟩
theorem stop1_any (h : MdIs w m gm F fc fs M ps L c Bs) (hs : m ≤ w.heap.size) {q gd : Nat} {g : Int} {cs : Array Value} (hq : Blk w q 90 #[.pointer (some ⟨gd, 0, none⟩)]) (hd : Blk w gd 92 cs) (hc0 : cs[0]? = some (.pointer (some ⟨gm, 0, none⟩))) (hc1 : cs[1]? = some (.int .i64 g)) :
    Calls Tryd.prog 94 #[.pointer (some ⟨q, 0, none⟩)] w fun e w' => e = .returned (.tuple #[]) ∧ MdIs w' m gm F fc fs { M with holder := g } ps L c Bs ∧ Mv [gm] w w' := by
  have hdr : Below w.heap.size w w.drew := (Below.refl _ w).drew
  have Q0 : ∀ w', SB27 w w' → w'.cell? ⟨q, 0, none⟩ = some (.pointer (some ⟨gd, 0, none⟩)) := fun w' h => h.cell hq rfl
  have D0 : ∀ w', SB27 w w' → w'.cell? ⟨gd, 0, none⟩ = some (.pointer (some ⟨gm, 0, none⟩)) := fun w' h => h.cell hd hc0
  have D1 : ∀ w', SB27 w w' → w'.cell? ⟨gd, 1, none⟩ = some (.int .i64 g) := fun w' h => h.cell hd hc1
  have hh := h.head.drew
  obtain ⟨-, -, -, q3, -⟩ := (h.step hdr hs).five
  have f3 := hh.frozen 3
  have hv : Mv [gm] w (w.drew.setCell ⟨gm, 3, none⟩ (.int .i64 g)) := (Mv.of_below hdr (Nat.le_refl _)).set _ _ (by simp)
  have HV := Lib.hid hv
  have HN := Lib.hid (h.setHead hs g M.owner hv (hh.set_ 3 _))
  have HD := Lib.hid (show SB27 w w.drew from hdr)
  clear h hh hq hd hc0 hc1 hv hdr
  go_enter Tryd.func94, Tryd.ntmps94
  go_wp2_with fail
  refine region_schE (SB27 w) [] [0, 1, 2, 3, 4, 5, 6, 7, 8, 9] 10 (by kernel_rfl) (by kernel_rfl) (by kernel_rfl) (fun _ _ d _ _ h => by cases d <;> exact h) HD.out ?_
  (try simp only [Act.put, List.setIfInBounds_toArray, List.set_cons_zero, List.set_cons_succ]); refine schE_last ?_; simp only [pickOps, List.getElem?_toArray, List.getElem?_cons_zero, List.getElem?_cons_succ]; (repeat (first | go_big_quiet_skip | (go_big_quiet_want; first | (go_big_quiet_op; first | go_big_quiet_on | ((first | with_reducible refine ⟨_, fun _ _ => rfl, ?_⟩); go_big_quiet_on)) | (simp (contextual := true) [go_sem, Q0, D0, D1]; with_reducible refine ⟨_, fun _ _ => rfl, ?_⟩; go_big_quiet_on)))); refine wpQuiet_nil ?_
  clear Q0 D0 D1
  go_wp2_with fail
  go_end0
  exact ⟨rfl, HN.out, HV.out⟩
theorem barr1_any (h : MdIs w m gm F fc fs M ps L c Bs) (hs : m ≤ w.heap.size) {q gd : Nat} {cs : Array Value} (hq : Blk w q 90 #[.pointer (some ⟨gd, 0, none⟩)]) (hd : Blk w gd 92 cs) (hc0 : cs[0]? = some (.pointer (some ⟨gm, 0, none⟩))) :
    Calls Tryd.prog 96 #[.pointer (some ⟨q, 0, none⟩)] w fun e w' => e = .returned (.tuple #[]) ∧ MdIs w' m gm F fc fs { M with owner := 0 } ps L c Bs ∧ Mv [gm] w w' := by
  have q0 : w.cell? ⟨q, 0, none⟩ = some (.pointer (some ⟨gd, 0, none⟩)) := (hq.cell 0).trans rfl
  have d0 : w.cell? ⟨gd, 0, none⟩ = some (.pointer (some ⟨gm, 0, none⟩)) := (hd.cell 0).trans hc0
  obtain ⟨-, -, -, -, q4⟩ := h.five
  have f4 := h.head.frozen 4
  have hv : Mv [gm] w (w.setCell ⟨gm, 4, none⟩ (.int .i64 0)) := (Mv.refl _ _).set _ _ (by simp)
  have HV := Lib.hid hv
  have HN := Lib.hid (h.setHead hs M.holder 0 hv (h.head.set_ 4 _))
  clear h hq hd hc0 hv
  go_enter Tryd.func96, Tryd.ntmps96
  go_wp2_with fail
  go_end0
  exact ⟨rfl, HN.out, HV.out⟩
end
end Go.Proofs.YtkfpnppppmccdaaDoor
namespace Go.Proofs.YtkfpnppppmccdaaDoor
open Go.RowKit
/-- Only block x was written. -/
def SX (x : Nat) (w w' : World) : Prop := Mv [x] w w'
theorem SX.cell {x : Nat} {w w' : World} (h : SX x w w') {g : Nat} {t : TypeId} {cs : Array Value} (hb : Blk w g t cs) (hg : g ≠ x) {i : Nat} {v : Value} (hc : cs[i]? = some v) : w'.cell? ⟨g, i, none⟩ = some v :=
  ((Mv.blk h hb (by simpa using hg)).cell i).trans hc
/-- Only block x was written, and there only cell 12. -/
def SY (x : Nat) (w w' : World) : Prop := Mv [x] w w' ∧ ∀ i, i ≠ 12 → w'.cell? ⟨x, i, none⟩ = w.cell? ⟨x, i, none⟩
section
variable {w : World} {m gm : Nat} {F : Option Addr} {fc : Nat} {fs : List Fn} {M : Md} {ps : List Nat} {L : Option Addr} {c : Nat} {Bs : List (Option Addr × Nat)}
theorem start1_any (h : MdIs w m gm F fc fs M ps L c Bs) (hs : m ≤ w.heap.size) {q gd : Nat} {cs : Array Value} (hq : Blk w q 90 #[.pointer (some ⟨gd, 0, none⟩)]) (hd : Blk w gd 92 cs) (hc0 : cs[0]? = some (.pointer (some ⟨gm, 0, none⟩))) (hqg : q ≠ gm) (hdg : gd ≠ gm) :
    Calls Tryd.prog 95 #[.pointer (some ⟨q, 0, none⟩)] w fun e w' => e = .returned (.tuple #[]) ∧ MdIs w' m gm F fc fs { M with holder := 0, owner := 0 } ps L c Bs ∧ Mv [gm] w w' := by
  have hdr : Below w.heap.size w w.drew := (Below.refl _ w).drew
  have Q0 : ∀ w', SX gm w w' → w'.cell? ⟨q, 0, none⟩ = some (.pointer (some ⟨gd, 0, none⟩)) := fun w' h => h.cell hq hqg rfl
  have D0 : ∀ w', SX gm w w' → w'.cell? ⟨gd, 0, none⟩ = some (.pointer (some ⟨gm, 0, none⟩)) := fun w' h => h.cell hd hdg hc0
  have hh := h.head.drew
  obtain ⟨-, -, -, q3, q4⟩ := (h.step hdr hs).five
  have f3 := hh.frozen 3
  have f4 := hh.frozen 4
  obtain ⟨-, -, -, p3, p4⟩ := h.five
  have g3 := h.head.frozen 3
  have g4 := h.head.frozen 4
  have hv1 : Mv [gm] w (w.drew.setCell ⟨gm, 3, none⟩ (.int .i64 0)) := (Mv.of_below hdr (Nat.le_refl _)).set _ _ (by simp)
  have hh1 := hh.set_ 3 (.int .i64 0)
  have HV1 := Lib.hid (show SX gm w _ from hv1)
  have HH1 := Lib.hid hh1
  have hv : Mv [gm] w ((w.drew.setCell ⟨gm, 3, none⟩ (.int .i64 0)).setCell ⟨gm, 4, none⟩ (.int .i64 0)) := hv1.set _ _ (by simp)
  have HV := Lib.hid hv
  have HN := Lib.hid (h.setHead hs 0 0 hv (hh1.set_ 4 _))
  have HD := Lib.hid (show SX gm w w.drew from Mv.of_below hdr (Nat.le_refl _))
  clear h hh hh1 hq hd hc0 hv hv1 hdr
  go_enter Tryd.func95, Tryd.ntmps95
  go_wp2_with fail
  refine region_schE (SX gm w) [([0, 1, 2, 3, 4, 5, 6, 7, 8, 9], 10)] [11, 12] 13 (by kernel_rfl) (by kernel_rfl) (by kernel_rfl) (fun _ _ d _ _ h => by cases d <;> exact h) HD.out ?_
  (try simp only [Act.put, List.setIfInBounds_toArray, List.set_cons_zero, List.set_cons_succ]); refine schE_seg ?_; simp only [pickOps, List.getElem?_toArray, List.getElem?_cons_zero, List.getElem?_cons_succ]; (repeat (first | go_big_quiet_skip | (go_big_quiet_want; first | (go_big_quiet_op; first | go_big_quiet_on | ((first | with_reducible refine ⟨_, fun _ _ => rfl, ?_⟩); go_big_quiet_on)) | (simp (contextual := true) [go_sem, Q0, D0]; with_reducible refine ⟨_, fun _ _ => rfl, ?_⟩; go_big_quiet_on)))); refine wpQuiet_nil ?_
  go_wp2_with fail
  refine ⟨SX gm w, HV1.out, fun _ h => h, ?_⟩
  (try simp only [Act.put, List.setIfInBounds_toArray, List.set_cons_zero, List.set_cons_succ]); refine schE_last ?_; simp only [pickOps, List.getElem?_toArray, List.getElem?_cons_zero, List.getElem?_cons_succ]; (repeat (first | go_big_quiet_skip | (go_big_quiet_want; first | (go_big_quiet_op; first | go_big_quiet_on | ((first | with_reducible refine ⟨_, fun _ _ => rfl, ?_⟩); go_big_quiet_on)) | (simp (contextual := true) [go_sem, Q0]; with_reducible refine ⟨_, fun _ _ => rfl, ?_⟩; go_big_quiet_on)))); refine wpQuiet_nil ?_
  clear Q0 D0
  go_wp2_with fail
  go_end0
  exact ⟨rfl, HN.out, HV.out⟩
theorem block1_any (h : MdIs w m gm F fc fs M ps L c Bs) (hs : m ≤ w.heap.size) {k p q gd : Nat} {cs : Array Value} (hk : k < M.l.length) (hp : ps[k]? = some p) (hq : Blk w q 90 #[.pointer (some ⟨gd, 0, none⟩)]) (hd : Blk w gd 92 cs) (hc2 : cs[2]? = some (.pointer (some ⟨p, 0, none⟩))) (hqp : q ≠ p) (hdp : gd ≠ p) :
    Calls Tryd.prog 97 #[.pointer (some ⟨q, 0, none⟩)] w fun e w' => e = .returned (.tuple #[]) ∧ MdIs w' m gm F fc fs { M with l := M.l.set k { goAt M k with blk := !(goAt M k).tok, tok := false } } ps L c Bs ∧ Mv [p] w w' := by
  have hdr : Below w.heap.size w w.drew := (Below.refl _ w).drew
  have Q0 : ∀ w', SX p w w' → w'.cell? ⟨q, 0, none⟩ = some (.pointer (some ⟨gd, 0, none⟩)) := fun w' h => h.cell hq hqp rfl
  have D2 : ∀ w', SX p w w' → w'.cell? ⟨gd, 2, none⟩ = some (.pointer (some ⟨p, 0, none⟩)) := fun w' h => h.cell hd hdp hc2
  obtain ⟨B, d, hb, hr⟩ := h.blkAt hk hp
  have hbd := hb.drew
  have s12 := (go_cells hbd hr).blk
  have s13 := (go_cells hbd hr).tok
  have f12 := hbd.frozen 12
  have f13 := hbd.frozen 13
  have p12 := (go_cells hb hr).blk
  have p13 := (go_cells hb hr).tok
  have g12 := hb.frozen 12
  have g13 := hb.frozen 13
  obtain ⟨tk, HT⟩ : ∃ tk, Hid (tk = (goAt M k).tok) := ⟨_, Lib.hid rfl⟩
  rw [← HT.out] at s13 p13 ⊢
  have hv1 : Mv [p] w (w.drew.setCell ⟨p, 12, none⟩ (.bool (!tk))) := (Mv.of_below hdr (Nat.le_refl _)).set _ _ (by simp)
  have hv : Mv [p] w ((w.drew.setCell ⟨p, 12, none⟩ (.bool (!tk))).setCell ⟨p, 13, none⟩ (.bool false)) := hv1.set _ _ (by simp)
  have HV1 := Lib.hid (show SX p w _ from hv1)
  have HV := Lib.hid hv
  have HN := Lib.hid (h.flag hs hk hp { goAt M k with blk := !tk, tok := false } rfl hv (fun B d hb => by
    rw [← (goArr_flag { goAt M k with blk := !tk } B d hr false).2.1, ← (goArr_flag (goAt M k) B d hr (!tk)).1]
    exact (hb.drew.set_ 12 _).set_ 13 _))
  have HD := Lib.hid (show SX p w w.drew from Mv.of_below hdr (Nat.le_refl _))
  have FT : ∀ w', SY p w w' → w'.cell? ⟨p, 13, none⟩ = some (.bool tk) := fun w' h => (h.2 13 (by omega)).trans p13
  have Q0' : ∀ w', SY p w w' → w'.cell? ⟨q, 0, none⟩ = some (.pointer (some ⟨gd, 0, none⟩)) := fun w' h => Q0 w' h.1
  have D2' : ∀ w', SY p w w' → w'.cell? ⟨gd, 2, none⟩ = some (.pointer (some ⟨p, 0, none⟩)) := fun w' h => D2 w' h.1
  have HY := Lib.hid (show SY p w w.drew from ⟨Mv.of_below hdr (Nat.le_refl _), fun _ _ => rfl⟩)
  have HY1 := Lib.hid (show SY p w (w.drew.setCell ⟨p, 12, none⟩ (.bool (!tk))) from ⟨hv1, fun i hi => by
    rw [(hbd.set_ 12 (.bool (!tk))).cell i, hb.cell i, Array.getElem?_setIfInBounds, if_neg (fun e => hi e.symm)]⟩)
  clear Q0 D2
  clear h hb hbd hr hq hd hc2 hv hv1 hdr hp hk
  go_enter Tryd.func97, Tryd.ntmps97
  go_wp2_with fail
  refine region_schE (SY p w) [([0, 1, 2, 3, 4, 5, 6, 7, 8, 9, 10, 11, 12, 13, 14, 15, 16, 17], 18)] [19, 20] 21 (by kernel_rfl) (by kernel_rfl) (by kernel_rfl) (fun _ _ d _ _ h => by cases d <;> exact h) HY.out ?_
  (try simp only [Act.put, List.setIfInBounds_toArray, List.set_cons_zero, List.set_cons_succ]); refine schE_seg ?_; simp only [pickOps, List.getElem?_toArray, List.getElem?_cons_zero, List.getElem?_cons_succ]; (repeat (first | go_big_quiet_skip | (go_big_quiet_want; first | (go_big_quiet_op; first | go_big_quiet_on | ((first | with_reducible refine ⟨_, fun _ _ => rfl, ?_⟩); go_big_quiet_on)) | (simp (contextual := true) [go_sem, FT, Q0', D2']; with_reducible refine ⟨_, fun _ _ => rfl, ?_⟩; go_big_quiet_on)))); refine wpQuiet_nil ?_
  go_wp2_with fail
  refine ⟨SY p w, HY1.out, fun _ h => h, ?_⟩
  (try simp only [Act.put, List.setIfInBounds_toArray, List.set_cons_zero, List.set_cons_succ]); refine schE_last ?_; simp only [pickOps, List.getElem?_toArray, List.getElem?_cons_zero, List.getElem?_cons_succ]; (repeat (first | go_big_quiet_skip | (go_big_quiet_want; first | (go_big_quiet_op; first | go_big_quiet_on | ((first | with_reducible refine ⟨_, fun _ _ => rfl, ?_⟩); go_big_quiet_on)) | (simp (contextual := true) [go_sem, Q0']; with_reducible refine ⟨_, fun _ _ => rfl, ?_⟩; go_big_quiet_on)))); refine wpQuiet_nil ?_
  clear Q0' D2' FT
  go_wp2_with fail
  go_end0
  exact ⟨rfl, HN.out, HV.out⟩
end
end Go.Proofs.YtkfpnppppmccdaaDoor

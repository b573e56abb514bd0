/-
  Chapter 27: the program's model and the reference's, side by side: what lies where, behind one event on either side. No walk here.
-/
import Derived.Test.YtkfpnppppmccdaaDoorLik27
namespace Go.Proofs.YtkfpnppppmccdaaDoor
open Go.RowKit
/-- The model keeps what it is, whatever blocks are written that are none of its own. -/
theorem md_mv {w w' : World} {m gm : Nat} {F L : Option Addr} {fc c : Nat} {fs : List Fn} {M : Md} {ps : List Nat} {Bs : List (Option Addr × Nat)} {X : List Nat} (h : MdIs w m gm F fc fs M ps L c Bs) (hs : m ≤ w.heap.size) (hm : Mv X w w') (hX : ∀ x ∈ X, m ≤ x) (h1 : gm ∉ X) (h2 : ∀ p ∈ ps, p ∉ X) (h3 : ∀ b, ob L = some b → b ∉ X)
    (h4 : ∀ (k : Nat) (hk : k < M.l.length), M.l[k].th.stack ≠ [] → ∀ b, ob (Bs[k]'(by rw [h.lb]; exact hk)).1 = some b → b ∉ X) : MdIs w' m gm F fc fs M ps L c Bs :=
  ⟨hm.blk h.head h1, h.lp, h.lb, own_mv h.row hm h3, fun k hk => hm.blk (h.mem k hk) (h2 _ (List.getElem_mem _)), fun k hk => thok_mv (h.th k hk) hm (h4 k hk), h.far, h.nd, h.ng, h.fits, h.stk, ⟨prog_mv h.prog.1 hm hs hX, h.prog.2⟩, h.low, h.few⟩
/-- So does the reference's model. -/
theorem ris_mv {w V V' : World} {F A : Option Addr} {fs : List Fn} {M : Md} {rs : List Pg} {X : List Nat} (hR : RIs V F fs M A rs) (hf : FnsOk w w.heap.size F fs) (hb : Below w.heap.size w V') (hm : Mv X V V') (hA : ∀ b, ob A = some b → b ∉ X) (hst : ∀ z ∈ rs, z.x.th.stack ≠ [] → ∀ b, ob z.B = some b → b ∉ X) : RIs V' F fs M A rs :=
  ⟨hR.hl, row_mv hR.row hm (fun _ => hA), fun z hz => thok_mv (hR.th z hz) hm (hst z hz), hR.few, ⟨hf.step hb, hR.prog.2⟩, hR.fits, hR.stk⟩
section
variable {w wr Y Z : World} {m gm qm q9 : Nat} {F A A' L : Option Addr} {fc c c2 c3 : Nat} {fs : List Fn} {M M2 : Md} {ps : List Nat} {Bs : List (Option Addr × Nat)} {rs rs' : List Pg}
theorem md_lt (h : MdIs w m gm F fc fs M ps L c Bs) : ∀ x ∈ gm :: (ps ++ (ob L).toList), x < w.heap.size := by
  intro x hx
  rcases List.mem_cons.1 hx with e | hx
  · rw [e]; exact h.head.lt
  · rcases List.mem_append.1 hx with hx | hx
    · obtain ⟨k, hk, rfl⟩ := List.getElem_of_mem hx
      exact (h.mem k (by rw [← h.lp]; exact hk)).lt
    · exact (h.row.lt x (Option.mem_toList.1 hx)).2
theorem ris_mv2 {V V' : World} {X : List Nat} (hR : RIs V F fs M A rs) (hf : FnsOk w w.heap.size F fs) (hb : Below w.heap.size w V') (hm : Mv X V V') (hA : rs ≠ [] → ∀ b, ob A = some b → b ∉ X) (hst : ∀ z ∈ rs, z.x.th.stack ≠ [] → ∀ b, ob z.B = some b → b ∉ X) : RIs V' F fs M A rs :=
  ⟨hR.hl, row_mv hR.row hm (fun hne => hA (by rintro rfl; exact hne rfl)), fun z hz => thok_mv (hR.th z hz) hm (hst z hz), hR.few, ⟨hf.step hb, hR.prog.2⟩, hR.fits, hR.stk⟩
/-- The row of the reference's goroutines lies in memory, if there is one. -/
theorem ris_row_lt {V : World} (hR : RIs V F fs M A rs) (hne : rs ≠ []) (b : Nat) (hb : ob A = some b) : b < V.heap.size := by
  have h0 : 0 < rs.length := List.length_pos_iff.2 hne
  obtain ⟨b1, off, hA, hlt, -⟩ := pg_at hR.row h0
  have : b1 = b := by rw [hA] at hb; simpa [ob] using hb
  omega
/-- Both models lie side by side. -/
structure DI (w wr : World) (gm qm : Nat) (F : Option Addr) (fc : Nat) (fs : List Fn) (M : Md) (ps : List Nat) (L : Option Addr) (c : Nat) (Bs : List (Option Addr × Nat)) (A : Option Addr) (c2 : Nat) (rs : List Pg) : Prop where
  md : MdIs wr w.heap.size gm F fc fs M ps L c Bs
  bx : BoxI w wr qm F fc fs M A c2 rs
  qn : qm ∉ gm :: (ps ++ (ob L).toList)
  an : rs ≠ [] → ∀ b, ob A = some b → b ∉ gm :: (ps ++ (ob L).toList)
  rn : ∀ z ∈ rs, z.x.th.stack ≠ [] → ∀ b, ob z.B = some b → b ∉ gm :: (ps ++ (ob L).toList)
  bn : ∀ p ∈ Bs, ∀ b, ob p.1 = some b → b ≠ qm
theorem doP_none {fs : List Fn} {M : Md} {e : Ev} (h : M.l = []) : (doP fs M e).1.l = [] := by
  have ha : actsP M e.g = false := by
    cases hx : actsP M e.g with
    | false => rfl
    | true =>
      obtain ⟨k, -, hk, -⟩ := acts_get hx
      rw [h] at hk
      exact absurd hk (Nat.not_lt_zero _)
  unfold doP
  rw [if_neg (by rw [ha]; decide)]
  exact h
theorem mem_new {ps ex : List Nat} {L L' : Option Addr} {N gm x : Nat} (hex : ∀ x ∈ ex, N ≤ x) (hL : ob L' = ob L ∨ ∃ b, ob L' = some b ∧ N ≤ b) (hx : x ∈ gm :: (ps ++ ex ++ (ob L').toList)) : x ∈ gm :: (ps ++ (ob L).toList) ∨ N ≤ x := by
  rcases List.mem_cons.1 hx with e | hx
  · left; rw [e]; simp
  rcases List.mem_append.1 hx with hx | hx
  · rcases List.mem_append.1 hx with hx | hx
    · left; simp [hx]
    · exact .inr (hex x hx)
  · rcases hL with e | ⟨b, e, hb⟩
    · left
      rw [e] at hx
      exact List.mem_cons_of_mem _ (List.mem_append_right _ hx)
    · rw [e] at hx
      have : x = b := by simpa using hx
      right; omega
/-- One event on either side. -/
theorem DI.step (h : DI w wr gm qm F fc fs M ps L c Bs A c2 rs) (hf : FnsOk w w.heap.size F fs) (hy : Below wr.heap.size wr Y) (hq9 : wr.heap.size ≤ q9) (hk9 : Blk Y q9 47 (MV F fs.length fc M2.gs A' rs'.length c3 M2.holder M2.owner)) (hR : RIs Y F fs M2 A' rs') (hO : Old wr rs rs') (hA : ∀ b, ob A' = some b → ob A = some b ∨ wr.heap.size ≤ b) (hn : M.l = [] → M2.l = [])
    (hd : DoneD w.heap.size gm F fc fs M2 ps L Bs Y Z) :
    ∃ ps' L' c' Bs', MdIs Z w.heap.size gm F fc fs M2 ps' L' c' Bs' ∧ RIs Z F fs M2 A' rs' ∧ Below w.heap.size w Z ∧ Blk Z q9 47 (MV F fs.length fc M2.gs A' rs'.length c3 M2.holder M2.owner) ∧ Blk Z qm 47 (MV F fs.length fc M.gs A rs.length c2 M.holder M.owner) ∧
      ∀ Z2, Below Z.heap.size Z Z2 → DI w (Z2.setRow qm (MV F fs.length fc M2.gs A' rs'.length c3 M2.holder M2.owner)) gm qm F fc fs M2 ps' L' c' Bs' A' c3 rs' := by
  have hX := md_lt h.md
  have hqlt := h.bx.blk.lt
  have hbw := h.bx.bel
  have hwz := hbw.size
  have hys := hy.size
  have hmdY := h.md.step hy hwz
  have hbz : Below w.heap.size Y Z := hd.below hmdY (by omega)
  obtain ⟨ex, L', c', Bs', hM, hex, hL, hv, hB⟩ := hd
  have hwZ : Below w.heap.size w Z := (hbw.trans (hy.mono hwz)).trans hbz
  have hst : ∀ z ∈ rs', z.x.th.stack ≠ [] → ∀ b, ob z.B = some b → b ∉ gm :: (ps ++ (ob L).toList) ∧ b ≠ qm := fun z hz hs b hb => by
    rcases hO z hz hs b hb with ⟨z0, h0, h1, h2⟩ | h3
    · exact ⟨h.rn z0 h0 h1 b h2, h.bx.stk z0 h0 h1 b h2⟩
    · exact ⟨fun hx => by have := hX b hx; omega, by omega⟩
  have hAn : rs' ≠ [] → ∀ b, ob A' = some b → b ∉ gm :: (ps ++ (ob L).toList) := fun hne b hb => by
    rcases hA b hb with h1 | h1
    · refine h.an (fun e => hne ?_) b h1
      have h2 : M.l = [] := by rw [h.bx.ris.hl, e]; rfl
      have h3 := hn h2
      rw [hR.hl] at h3
      exact List.map_eq_nil_iff.1 h3
    · intro hx
      have := hX b hx
      omega
  have hRZ : RIs Z F fs M2 A' rs' := ris_mv2 hR hf hwZ hv hAn (fun z hz hs b hb => (hst z hz hs b hb).1)
  have hk9Z := hv.blk hk9 (fun hx => by have := hX q9 hx; omega)
  have hqY := h.bx.blk.below hy hqlt
  have hqZ := hv.blk hqY h.qn
  refine ⟨ps ++ ex, L', c', Bs', hM, hRZ, hwZ, hk9Z, hqZ, fun Z2 hz2 => ?_⟩
  have hvs := hv.size
  have hbx : Blk Z2 qm 47 (MV F fs.length fc M.gs A rs.length c2 M.holder M.owner) := hqZ.below hz2 hqZ.lt
  have hw2 : Below w.heap.size w Z2 := hwZ.trans (hz2.mono hwZ.size)
  have hbox := ris_box (hRZ.step hz2) hf hw2 h.bx.far hbx (by rw [mv_size]; decide) (fun z hz hs b hb => (hst z hz hs b hb).2) (MV F fs.length fc M2.gs A' rs'.length c3 M2.holder M2.owner)
  have hq' : qm ∉ gm :: (ps ++ ex ++ (ob L').toList) := fun hx => by
    rcases mem_new hex hL hx with h1 | h1
    · exact h.qn h1
    · omega
  have hbn : ∀ p ∈ Bs', ∀ b, ob p.1 = some b → b ≠ qm := fun p hp b hb => by
    rcases hB p hp b hb with ⟨p0, h0, h1⟩ | h1
    · exact h.bn p0 h0 b h1
    · omega
  refine ⟨?_, ⟨hbx.setRow _, hbox.1, hbox.2, h.bx.far, fun z hz hs b hb => (hst z hz hs b hb).2⟩, hq', fun hne b hb hx => ?_, fun z hz hs b hb hx => ?_, hbn⟩
  · refine md_mv (X := [qm]) (hM.step hz2 hwZ.size) hw2.size ((Mv.refl [qm] Z2).setRow qm _ (by simp)) (fun x hx => ?_) (fun hx => ?_) (fun p hp hx => ?_) (fun b hb hx => ?_) (fun k hk _ b hb hx => ?_)
    · rw [List.mem_singleton] at hx
      rw [hx]
      exact h.bx.far
    · rw [List.mem_singleton] at hx
      exact hq' (by rw [← hx]; simp)
    · rw [List.mem_singleton] at hx
      exact hq' (by rw [← hx]; exact List.mem_cons_of_mem _ (List.mem_append_left _ hp))
    · rw [List.mem_singleton] at hx
      exact hq' (by rw [← hx, hb]; simp)
    · rw [List.mem_singleton] at hx
      exact hbn _ (List.getElem_mem _) b hb hx
  · rcases mem_new hex hL hx with h1 | h1
    · exact hAn hne b hb h1
    · have := ris_row_lt hR hne b hb
      omega
  · rcases mem_new hex hL hx with h1 | h1
    · exact (hst z hz hs b hb).1 h1
    · have := ob_lt hR z hz hs b hb
      omega
/-- At the beginning. -/
theorem di_new {W2 W3 V0 : World} {pg c0 : Nat} {g : Int} {A0 L : Option Addr} {rs0 : List Pg} (hw : Below w.heap.size w W3) (hM : MdIs W2 w.heap.size gm F fc fs (md0 g) [pg] L 1 [(none, 0)]) (h23 : Below W2.heap.size W2 W3) (hs : w.heap.size ≤ W2.heap.size) (hR : RIs W3 F fs (md0 g) A0 rs0) (hA : ∀ b, ob A0 = some b → W2.heap.size ≤ b)
    (hb : Below W3.heap.size W3 V0) (hq : W3.heap.size ≤ qm) (hk : Blk V0 qm 47 (MV F fs.length fc g A0 rs0.length c0 0 0)) : DI w V0 gm qm F fc fs (md0 g) [pg] L 1 [(none, 0)] A0 c0 rs0 := by
  have hX := md_lt hM
  have h2 := h23.size
  have hz : ∀ z ∈ rs0, z.x.th.stack = [] := fun z hz => by
    have h1 : z.x ∈ (md0 g).l := by rw [hR.hl]; exact List.mem_map.2 ⟨z, hz, rfl⟩
    have h2 : z.x = newGo 0 0 := by simpa [md0] using h1
    rw [h2]
    rfl
  refine ⟨(hM.step h23 hs).step hb (by omega), ⟨hk, hR.step hb, hw.trans (hb.mono hw.size), by omega, fun z h1 h2 => absurd (hz z h1) h2⟩, fun hx => ?_, fun _ b h1 hx => ?_, fun z h1 h2 => absurd (hz z h1) h2, fun p hp b h1 => ?_⟩
  · have := hX qm hx
    omega
  · have := hX b hx
    have := hA b h1
    omega
  · rw [List.mem_singleton] at hp
    rw [hp] at h1
    cases h1
end
end Go.Proofs.YtkfpnppppmccdaaDoor

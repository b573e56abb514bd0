/-
  Chapter 7: the law CodeApart returns true, whatever is handed in. Condition: the table isa.rows.
-/
import Derived.Test.YthcbceaeobnmgaaDoorCln7
import Derived.Test.YthcbceaeobnmgaaDoorAly7
namespace Go.Proofs.YthcbceaeobnmgaaDoor
open Go.RowKit
/-- A program whose numbers and truths may be anything: it lies between two bounds. -/
structure DInv (wr : World) (B E : Nat) (D : Option Addr) (al : List FnA) : Prop where
  hdr : Row wr E D (al.flatMap fnaVals)
  code : ∀ a ∈ al, ∀ j, j < a.n → ∃ b off, a.C = some ⟨b, off, none⟩ ∧ B ≤ b ∧ b < E ∧ (∃ x, wr.cell? ⟨b, off + j * 5 + 1, none⟩ = some (.int .i64 x)) ∧ wr.frozen? ⟨b, off + j * 5 + 1, none⟩ = false
  safe : ∀ a ∈ al, ∀ j, j < a.m → ∃ b off, a.S = some ⟨b, off, none⟩ ∧ B ≤ b ∧ b < E ∧ (∃ x, wr.cell? ⟨b, off + j, none⟩ = some (.bool x)) ∧ wr.frozen? ⟨b, off + j, none⟩ = false
theorem fna_slice (al : List FnA) : ∀ v ∈ al.flatMap fnaVals, ∃ A n c, v = .slice A n c := by
  intro v hv
  obtain ⟨a, _, ha⟩ := List.mem_flatMap.1 hv
  simp only [fnaVals, List.mem_cons, List.not_mem_nil, or_false] at ha
  rcases ha with rfl | rfl <;> exact ⟨_, _, _, rfl⟩
theorem DInv.of {wr : World} {B : Nat} {D : Option Addr} {fs : List Fn} (h : FnsNewU wr B D fs) : ∃ al, al.length = fs.length ∧ (∀ a ∈ al, ∃ f ∈ fs, a.n = f.code.length ∧ a.m = f.safe.length) ∧ DInv wr B wr.heap.size D al := by
  obtain ⟨al, h1, h2, h3⟩ := h
  refine ⟨al, h1.1, fun a ha => ?_, h2.row fun b hb => hb.2, fun a ha j hj => ?_, fun a ha j hj => ?_⟩
  · obtain ⟨i, hi, rfl⟩ := List.getElem_of_mem ha
    have hfi : i < fs.length := by rw [← h1.1]; exact hi
    exact ⟨_, List.getElem_mem hfi, (h1.2 i hi hfi).1, (h1.2 i hi hfi).2.1⟩
  · obtain ⟨i, hi, rfl⟩ := List.getElem_of_mem ha
    have hfi : i < fs.length := by rw [← h1.1]; exact hi
    obtain ⟨e1, _, e3, _⟩ := h1.2 i hi hfi
    rcases e3 with e3 | ⟨b, off, e, hb, hc⟩
    · have : (fs[i].code.flatMap insVals).length = 0 := by rw [e3]; rfl
      rw [flat_length insVals_len] at this
      omega
    · have hu := (h3 _ ha).1 _ e
      have hjc : j < fs[i].code.length := by omega
      refine ⟨b, off, e, hb.1, hb.2, ⟨fs[i].code[j].a, ?_⟩, hu.2 _⟩
      have := hc (j * 5 + 1) _ (flat_at insVals_len fs[i].code j 1 _ _ (List.getElem?_eq_getElem hjc) rfl)
      rw [← Nat.add_assoc] at this
      exact this
  · obtain ⟨i, hi, rfl⟩ := List.getElem_of_mem ha
    have hfi : i < fs.length := by rw [← h1.1]; exact hi
    obtain ⟨_, e2, _, e4, _⟩ := h1.2 i hi hfi
    rcases e4 with e4 | ⟨b, off, e, hb, hc⟩
    · have : (boolVals fs[i].safe).length = 0 := by rw [e4]; rfl
      simp only [boolVals, List.length_map] at this
      omega
    · have hu := (h3 _ ha).2 _ e
      have hjc : j < fs[i].safe.length := by omega
      exact ⟨b, off, e, hb.1, hb.2, ⟨fs[i].safe[j], hc j _ (by simp [boolVals, hjc])⟩, hu.2 _⟩
section
variable {wr w1 : World} {B E : Nat} {D : Option Addr} {al : List FnA}
theorem DInv.below (h : DInv wr B E D al) (hb : ∀ b, b < E → w1.heap[b]? = wr.heap[b]?) : DInv w1 B E D al := by
  have hc : ∀ (b i : Nat), b < E → w1.cell? ⟨b, i, none⟩ = wr.cell? ⟨b, i, none⟩ := fun b i h => by unfold World.cell?; rw [hb b h]
  have hf : ∀ (b i : Nat), b < E → w1.frozen? ⟨b, i, none⟩ = wr.frozen? ⟨b, i, none⟩ := fun b i h => by unfold World.frozen?; rw [hb b h]
  refine ⟨?_, fun a ha j hj => ?_, fun a ha j hj => ?_⟩
  · rcases h.hdr with h0 | ⟨b, off, e, hb', h1⟩
    · exact .inl h0
    · exact .inr ⟨b, off, e, hb', fun j v hv => (hc _ _ hb').trans (h1 j v hv)⟩
  · obtain ⟨b, off, e, h1, h2, ⟨x, h3⟩, h4⟩ := h.code a ha j hj
    exact ⟨b, off, e, h1, h2, ⟨x, (hc _ _ h2).trans h3⟩, (hf _ _ h2).trans h4⟩
  · obtain ⟨b, off, e, h1, h2, ⟨x, h3⟩, h4⟩ := h.safe a ha j hj
    exact ⟨b, off, e, h1, h2, ⟨x, (hc _ _ h2).trans h3⟩, (hf _ _ h2).trans h4⟩
theorem DInv.int (h : DInv wr B E D al) {p : Addr} {y z : Int} (hp : wr.cell? p = some (.int .i64 y)) : DInv (wr.setCell p (.int .i64 z)) B E D al := by
  refine ⟨?_, fun a ha j hj => ?_, fun a ha j hj => ?_⟩
  · rcases h.hdr with h0 | ⟨b, off, e, hb', h1⟩
    · exact .inl h0
    · refine .inr ⟨b, off, e, hb', fun j v hv => ?_⟩
      have h2 := h1 j v hv
      refine (World.cell?_setCell_other _ _ _ _ (fun e => ?_)).trans h2
      rw [← e, hp] at h2
      obtain ⟨_, _, _, rfl⟩ := fna_slice al v (List.mem_of_getElem? hv)
      cases h2
  · obtain ⟨b, off, e, h1, h2, ⟨x, h3⟩, h4⟩ := h.code a ha j hj
    refine ⟨b, off, e, h1, h2, ?_, by rw [World.frozen?_setCell]; exact h4⟩
    by_cases he : p = ⟨b, off + j * 5 + 1, none⟩
    · rw [← he]
      exact ⟨z, World.cell?_setCell_same _ _ _ hp⟩
    · exact ⟨x, (World.cell?_setCell_other _ _ _ _ he).trans h3⟩
  · obtain ⟨b, off, e, h1, h2, ⟨x, h3⟩, h4⟩ := h.safe a ha j hj
    refine ⟨b, off, e, h1, h2, ⟨x, (World.cell?_setCell_other _ _ _ _ (fun e => ?_)).trans h3⟩, by rw [World.frozen?_setCell]; exact h4⟩
    rw [← e, hp] at h3
    cases h3
theorem DInv.bool (h : DInv wr B E D al) {p : Addr} {y z : Bool} (hp : wr.cell? p = some (.bool y)) : DInv (wr.setCell p (.bool z)) B E D al := by
  refine ⟨?_, fun a ha j hj => ?_, fun a ha j hj => ?_⟩
  · rcases h.hdr with h0 | ⟨b, off, e, hb', h1⟩
    · exact .inl h0
    · refine .inr ⟨b, off, e, hb', fun j v hv => ?_⟩
      have h2 := h1 j v hv
      refine (World.cell?_setCell_other _ _ _ _ (fun e => ?_)).trans h2
      rw [← e, hp] at h2
      obtain ⟨_, _, _, rfl⟩ := fna_slice al v (List.mem_of_getElem? hv)
      cases h2
  · obtain ⟨b, off, e, h1, h2, ⟨x, h3⟩, h4⟩ := h.code a ha j hj
    refine ⟨b, off, e, h1, h2, ⟨x, (World.cell?_setCell_other _ _ _ _ (fun e => ?_)).trans h3⟩, by rw [World.frozen?_setCell]; exact h4⟩
    rw [← e, hp] at h3
    cases h3
  · obtain ⟨b, off, e, h1, h2, ⟨x, h3⟩, h4⟩ := h.safe a ha j hj
    refine ⟨b, off, e, h1, h2, ?_, by rw [World.frozen?_setCell]; exact h4⟩
    by_cases he : p = ⟨b, off + j, none⟩
    · rw [← he]
      exact ⟨z, World.cell?_setCell_same _ _ _ hp⟩
    · exact ⟨x, (World.cell?_setCell_other _ _ _ _ he).trans h3⟩
end
/-- What stands while the clone's clone is turned. -/
structure DSt (w3 wr : World) (gD : Nat) (D : Option Addr) (n dc : Nat) (al : List FnA) : Prop where
  inv : DInv wr w3.heap.size gD D al
  box : Blk wr gD 24 #[.slice D n dc]
  bel : Below w3.heap.size w3 wr
  le : w3.heap.size ≤ gD
theorem DSt.int {w3 wr : World} {gD n dc : Nat} {D : Option Addr} {al : List FnA} (h : DSt w3 wr gD D n dc al) {b i : Nat} {y z : Int} (hb : w3.heap.size ≤ b) (hE : b < gD) (hp : wr.cell? ⟨b, i, none⟩ = some (.int .i64 y)) : DSt w3 (wr.setCell ⟨b, i, none⟩ (.int .i64 z)) gD D n dc al :=
  ⟨h.inv.int hp, h.box.far (p := ⟨b, i, none⟩) (by show gD ≠ b; omega) _, h.bel.setCell (p := ⟨b, i, none⟩) hb _, h.le⟩
theorem DSt.bool {w3 wr : World} {gD n dc : Nat} {D : Option Addr} {al : List FnA} (h : DSt w3 wr gD D n dc al) {b i : Nat} {y z : Bool} (hb : w3.heap.size ≤ b) (hE : b < gD) (hp : wr.cell? ⟨b, i, none⟩ = some (.bool y)) : DSt w3 (wr.setCell ⟨b, i, none⟩ (.bool z)) gD D n dc al :=
  ⟨h.inv.bool hp, h.box.far (p := ⟨b, i, none⟩) (by show gD ≠ b; omega) _, h.bel.setCell (p := ⟨b, i, none⟩) hb _, h.le⟩
theorem DSt.drew_ {w3 wr : World} {gD n dc : Nat} {D : Option Addr} {al : List FnA} (h : DSt w3 wr gD D n dc al) : DSt w3 wr.drew gD D n dc al := ⟨h.inv.below fun _ _ => rfl, h.box.drew, h.bel.drew, h.le⟩
/-- Three cells that are read. -/
def S3d (p0 p1 p2 : Addr) (v0 v1 v2 : Value) (w' : World) : Prop := w'.cell? p0 = some v0 ∧ w'.cell? p1 = some v1 ∧ w'.cell? p2 = some v2
theorem DSt.hdr {w3 wr : World} {gD n dc : Nat} {D : Option Addr} {al : List FnA} (h : DSt w3 wr gD D n dc al) (i : Nat) (hi : i < al.length) :
    ∃ b off, D = some ⟨b, off, none⟩ ∧ b < gD ∧ wr.cell? ⟨b, off + i * 2, none⟩ = some (.slice al[i].C al[i].n al[i].c) ∧ wr.cell? ⟨b, off + i * 2 + 1, none⟩ = some (.slice al[i].S al[i].m al[i].d) := by
  obtain ⟨b, off, e, hb, hc⟩ := h.inv.hdr.at_ (k := i * 2) (by rw [flat_length fnaVals_len]; omega)
  exact ⟨b, off, e, hb, hc _ _ (flat_at fnaVals_len al i 0 _ _ (List.getElem?_eq_getElem hi) rfl), by rw [Nat.add_assoc]; exact hc _ _ (flat_at fnaVals_len al i 1 _ _ (List.getElem?_eq_getElem hi) rfl)⟩
set_option maxHeartbeats 4000000 in
set_option maxRecDepth 100000 in
theorem apart07 (A : Option Addr) (c : Nat) (fs : List Fn) (w : World) (hT : Tab w) (hm : fs.length ≤ maxLen) (hf : FnsOk w w.heap.size A fs) :
    Calls Tryd.prog 3 #[.agg #[.slice A fs.length c]] w fun e w' => e = .returned (.bool true) ∧ Below w.heap.size w w' := by
  have hW : ∃ W : World, Hid (W = w.alloc (.cells #[.slice A fs.length c] 24)) := ⟨_, rfl⟩
  obtain ⟨W, HW⟩ := hW
  have HB0 := Lib.hid (show Below w.heap.size w W by rw [HW.out]; exact (Below.refl _ _).alloc (Nat.le_refl _) _)
  have HBP := Lib.hid (show Blk W w.heap.size 24 #[.slice A fs.length c] by rw [HW.out]; exact Blk.new w _ _)
  have HTA := Lib.hid hT
  have HF := Lib.hid hf
  have HM := Lib.hid hm
  clear hT hf hm
  go_enter Tryd.func3, Tryd.ntmps3
  go_wp2_with fail
  rw [← HW.out]
  refine (light_any A c fs W HM.out (HF.out.step HB0.out)).mono ?_
  rintro e w1 ⟨rfl, hb1⟩
  have HB1 := Lib.hid (HB0.out.trans (hb1.mono HB0.out.size))
  have HBP1 := Lib.hid (HBP.out.below hb1 HBP.out.lt)
  have kp := HBP1.out.cell 0
  simp only [List.getElem?_toArray, List.getElem?_cons_zero] at kp
  clear hb1
  cases hl : lightP fs with
  | false =>
    clear hl
    go_wp2_with fail
    refine (alive07 w1 (HTA.out.step HB1.out)).mono ?_
    rintro e w2 ⟨rfl, hb⟩
    have HB2 := Lib.hid (HB1.out.trans (hb.mono HB1.out.size))
    clear hb
    go_wp2_with fail
    go_ret
    exact ⟨rfl, HB2.out⟩
  | true =>
    have hl20 : fs.length ≤ 20 ∧ ∀ f ∈ fs, f.code.length ≤ 70 ∧ f.safe.length ≤ 70 := by
      unfold lightP at hl
      simp only [Bool.and_eq_true, decide_eq_true_eq, List.all_eq_true] at hl
      refine ⟨hl.1, fun f hf => ?_⟩
      have := hl.2 f hf
      unfold lightF at this
      simpa using this
    have HL := Lib.hid hl20
    clear hl hl20
    go_wp2_with fail
    refine (codeClone_any A c fs w1 (by have := HL.out.1; omega) (fun f hf => ⟨by have := (HL.out.2 f hf).1; omega, by have := (HL.out.2 f hf).2; omega⟩) (HF.out.step HB1.out)).mono ?_
    rintro e w2 ⟨C, cc, rfl, hn2, hb2⟩
    have HB2 := Lib.hid (HB1.out.trans (hb2.mono HB1.out.size))
    have HBP2 := Lib.hid (HBP1.out.below hb2 HBP1.out.lt)
    have HC2 := Lib.hid (FnsNew.ok hn2.new)
    clear hb2 hn2 kp
    have hw3 : ∃ w3 : World, Hid (w3 = w2.alloc (.cells #[.slice C fs.length cc] 24)) := ⟨_, rfl⟩
    obtain ⟨w3, HW3⟩ := hw3
    have HB3 := Lib.hid (show Below w2.heap.size w2 w3 by rw [HW3.out]; exact (Below.refl _ _).alloc (Nat.le_refl _) _)
    have HBC3 := Lib.hid (show Blk w3 w2.heap.size 24 #[.slice C fs.length cc] by rw [HW3.out]; exact Blk.new _ _ _)
    go_wp2_with fail
    rw [← HW3.out]
    refine (codeClone_any C cc fs w3 (by have := HL.out.1; omega) (fun f hf => ⟨by have := (HL.out.2 f hf).1; omega, by have := (HL.out.2 f hf).2; omega⟩) (HC2.out.step HB3.out)).mono ?_
    rintro e w4 ⟨D, dc, rfl, hn4, hb4⟩
    have HB4 := Lib.hid (HB3.out.trans (hb4.mono HB3.out.size))
    have HBC4 := Lib.hid (HBC3.out.below hb4 HBC3.out.lt)
    have HD4 := Lib.hid hn4
    have HZ4 := Lib.hid hb4.size
    obtain ⟨al, hal, hbd, hdi⟩ := DInv.of hn4
    have HBD := Lib.hid (show ∀ a ∈ al, a.n ≤ 70 ∧ a.m ≤ 70 from fun a ha => by
      obtain ⟨f, hf, e1, e2⟩ := hbd a ha
      have := HL.out.2 f hf
      omega)
    have hgd : ∃ gD : Nat, Hid (gD = w4.heap.size) := ⟨_, rfl⟩
    obtain ⟨gD, HGD⟩ := hgd
    have hst : DSt w3 (w4.alloc (.cells #[.slice D fs.length dc] 24)) gD D fs.length dc al := by
      rw [HGD.out]
      exact ⟨hdi.below fun b hb => Below.heap_alloc _ _ _ hb, Blk.new _ _ _, (show Below w3.heap.size w3 w4 from hb4).alloc hb4.size _, hb4.size⟩
    have HST := Lib.hid hst
    have HAL := Lib.hid hal
    clear hb4 hn4 hdi hst hal hbd
    go_wp2_with fail
    rw [← HGD.out]
    have hnn : ∃ n : Nat, Hid (n = fs.length) := ⟨_, rfl⟩
    obtain ⟨n, HN⟩ := hnn
    have hn20 : n ≤ 20 := by rw [HN.out]; exact HL.out.1
    rw [← HN.out]
    rw [← HN.out] at HST HAL
    go_loopw [5] (fun vi wr => ∃ i : Nat, i ≤ n ∧ vi = .int .i64 i ∧ Hid (DSt w3 wr gD D n dc al)) (fun vi _ => n - (intOf vi).toNat)
    case atStart => exact ⟨0, by omega, rfl, HST⟩
    case round =>
      obtain ⟨i, hi, rfl, HS⟩ := hrel
      clear HST
      have kd := HS.out.box.cell 0
      simp only [List.getElem?_toArray, List.getElem?_cons_zero] at kd
      have kc := (HBC3.out.below HS.out.bel HBC3.out.lt).cell 0
      have HBP3 := Lib.hid (HBP2.out.below HB3.out HBP2.out.lt)
      have kp := (HBP3.out.below HS.out.bel HBP3.out.lt).cell 0
      simp only [List.getElem?_toArray, List.getElem?_cons_zero] at kc kp
      by_cases hlt : i < n
      · have hia : i < al.length := by rw [HAL.out]; exact hlt
        have HCD := Lib.hid (HS.out.inv.code al[i] (List.getElem_mem hia))
        have hmax := HS.out.hdr i hia
        obtain ⟨b, off, rfl, hbE, c0, c1⟩ := hmax
        have HME := Lib.hid (List.getElem_mem hia)
        have HHD := Lib.hid (fun (wq : World) (h : DSt w3 wq gD (some ⟨b, off, none⟩) n dc al) => h.hdr i hia)
        generalize al[i] = a at *
        obtain ⟨C0, fn, fc, S0, fm, fd⟩ := a
        simp only at c0 c1
        have hf70 : fn ≤ 70 := (HBD.out _ HME.out).1
        have hm70 : fm ≤ 70 := (HBD.out _ HME.out).2
        clear kc kp
        go_wp2_with fail
        go_loopw [6] (fun vi wr => ∃ k : Nat, k ≤ fn ∧ vi = .int .i64 k ∧ Hid (DSt w3 wr gD (some ⟨b, off, none⟩) n dc al)) (fun vi _ => fn - (intOf vi).toNat)
        case atStart => exact ⟨0, by omega, rfl, HS⟩
        case round =>
          obtain ⟨k, hk, rfl, HS2⟩ := hrel
          clear HS c0 c1 kd
          have kd := HS2.out.box.cell 0
          simp only [List.getElem?_toArray, List.getElem?_cons_zero] at kd
          obtain ⟨b', off', e', _, c0, c1⟩ := HHD.out wr HS2.out
          injection e' with e'
          injection e' with e1 e2
          subst e1 e2
          by_cases hkl : k < fn
          · obtain ⟨bc, oc, rfl, g1, g2, ⟨x, g3⟩, g4⟩ := HS2.out.inv.code _ HME.out k hkl
            have HS3 := Lib.hid (HS2.out.int (z := wrap64 (x + 1)) g1 g2 g3)
            have hbcl : bc < wr.heap.size := Nat.lt_trans g2 HS2.out.box.lt
            go_wp2_with fail
            exact ⟨⟨k + 1, by omega, by simp, HS3⟩, by simp [intOf]; omega⟩
          · go_wp2_with fail
            clear c0 c1 kd
            go_loopw [7] (fun vi wr => ∃ k : Nat, k ≤ fm ∧ vi = .int .i64 k ∧ Hid (DSt w3 wr gD (some ⟨b, off, none⟩) n dc al)) (fun vi _ => fm - (intOf vi).toNat)
            case atStart => exact ⟨0, by omega, rfl, HS2⟩
            case round =>
              obtain ⟨k2, hk2, rfl, HS4⟩ := hrel
              clear HS2
              have kd := HS4.out.box.cell 0
              simp only [List.getElem?_toArray, List.getElem?_cons_zero] at kd
              obtain ⟨b', off', e', _, c0, c1⟩ := HHD.out wr HS4.out
              injection e' with e'
              injection e' with e1 e2
              subst e1 e2
              by_cases hkl2 : k2 < fm
              · obtain ⟨bc, oc, rfl, g1, g2, ⟨x, g3⟩, g4⟩ := HS4.out.inv.safe _ HME.out k2 hkl2
                have hbcl : bc < wr.heap.size := Nat.lt_trans g2 HS4.out.box.lt
                have HS4d := Lib.hid HS4.out.drew_
                have HS6 := Lib.hid (HS4d.out.bool (z := !x) g1 g2 (show wr.drew.cell? ⟨bc, oc + k2, none⟩ = some (.bool x) from g3))
                have F0 : ∀ w' : World, S3d ⟨gD, 0, none⟩ ⟨b, off + i * 2 + 1, none⟩ ⟨bc, oc + k2, none⟩ (.slice (some ⟨b, off, none⟩) n dc) (.slice (some ⟨bc, oc, none⟩) fm fd) (.bool x) w' → w'.cell? ⟨gD, 0, none⟩ = some (.slice (some ⟨b, off, none⟩) n dc) := fun _ h => h.1
                have F1 : ∀ w' : World, S3d ⟨gD, 0, none⟩ ⟨b, off + i * 2 + 1, none⟩ ⟨bc, oc + k2, none⟩ (.slice (some ⟨b, off, none⟩) n dc) (.slice (some ⟨bc, oc, none⟩) fm fd) (.bool x) w' → w'.cell? ⟨b, off + i * 2 + 1, none⟩ = some (.slice (some ⟨bc, oc, none⟩) fm fd) := fun _ h => h.2.1
                have F2 : ∀ w' : World, S3d ⟨gD, 0, none⟩ ⟨b, off + i * 2 + 1, none⟩ ⟨bc, oc + k2, none⟩ (.slice (some ⟨b, off, none⟩) n dc) (.slice (some ⟨bc, oc, none⟩) fm fd) (.bool x) w' → w'.cell? ⟨bc, oc + k2, none⟩ = some (.bool x) := fun _ h => h.2.2
                go_wp2_with fail
                refine region_schE (S3d ⟨gD, 0, none⟩ ⟨b, off + i * 2 + 1, none⟩ ⟨bc, oc + k2, none⟩ (.slice (some ⟨b, off, none⟩) n dc) (.slice (some ⟨bc, oc, none⟩) fm fd) (.bool x)) [] [0, 1, 2, 3, 4, 5, 6, 7, 8, 9, 10, 11, 12, 13, 14, 15, 16, 17] 18 (by kernel_rfl) (by kernel_rfl) (by kernel_rfl) (fun _ _ d _ _ h => by cases d <;> exact h) ⟨kd, c1, g3⟩ ?_
                (try simp only [Act.put, List.setIfInBounds_toArray, List.set_cons_zero, List.set_cons_succ]); refine schE_last ?_; simp only [pickOps, List.getElem?_toArray, List.getElem?_cons_zero, List.getElem?_cons_succ]; (repeat (first | go_big_quiet_skip | (go_big_quiet_want; first | (go_big_quiet_op; first | go_big_quiet_on | ((first | with_reducible refine ⟨_, fun _ _ => rfl, ?_⟩); go_big_quiet_on)) | (simp (contextual := true) [go_sem, F0, F1, F2]; with_reducible refine ⟨_, fun _ _ => rfl, ?_⟩; go_big_quiet_on)))); refine wpQuiet_nil ?_
                clear F0 F1 F2
                go_wp2_with fail
                exact ⟨⟨k2 + 1, by omega, by simp, HS6⟩, by simp [intOf]; omega⟩
              · go_wp2_with fail
                exact ⟨⟨i + 1, by omega, by simp, HS4⟩, by simp [intOf]; omega⟩
      · go_wp2_with fail
        have HFP := Lib.hid (show FnsOk wr wr.heap.size A fs from ((HF.out.step HB2.out).step HB3.out).step HS.out.bel)
        have HFC := Lib.hid (show FnsOk wr wr.heap.size C fs from (HC2.out.step HB3.out).step HS.out.bel)
        refine (same7_true C A cc c fs wr HM.out HFC.out HFP.out).mono ?_
        rintro e w5 ⟨rfl, hb5⟩
        have HB5 := Lib.hid (HB2.out.trans (((HB3.out.trans (HS.out.bel.mono HB3.out.size)).trans (hb5.mono (Nat.le_trans HB3.out.size HS.out.bel.size))).mono HB2.out.size))
        clear hb5
        go_wp2_with fail
        refine (alive07 w5 (HTA.out.step HB5.out)).mono ?_
        rintro e w6 ⟨rfl, hb6⟩
        have HB6 := Lib.hid (HB5.out.trans (hb6.mono HB5.out.size))
        clear hb6
        go_wp2_with fail
        go_ret
        exact ⟨rfl, HB6.out⟩
end Go.Proofs.YthcbceaeobnmgaaDoor

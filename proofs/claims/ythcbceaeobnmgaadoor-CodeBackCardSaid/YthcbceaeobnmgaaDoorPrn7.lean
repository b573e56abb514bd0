/-
  Chapter 7: contract of code.Print. Conditions: the table is laid, the program lies in memory and is light.
-/
import Derived.Test.YthcbceaeobnmgaaDoorFit7b
import Derived.Test.YthcbceaeobnmgaaDoorPst7
namespace Go.Proofs.YthcbceaeobnmgaaDoor
open Go.RowKit
/-- What Print gives. -/
def PrintOut (base : Nat) (fs : List Fn) (e : Ending) (w' : World) : Prop :=
  if printOk fs = true then ∃ A c, e = .returned (.tuple #[.slice A (progB fs).length c, .int .i64 0]) ∧ Own w' base 5 1 A (progB fs).length c (byteVals (progB fs))
  else e = .returned (.tuple #[.slice none 0 0, .int .i64 1])
set_option maxHeartbeats 4000000 in
set_option maxRecDepth 100000 in
theorem print_any (A : Option Addr) (c : Nat) (fs : List Fn) (w : World) (hT : Tab w) (hn : fs.length ≤ maxLen) (hf : FnsOk w w.heap.size A fs) :
    Calls Tryd.prog 11 #[.agg #[.slice A fs.length c]] w fun e w' => PrintOut w.heap.size fs e w' ∧ Below w.heap.size w w' := by
  obtain ⟨i0, hi, hz0, hz1, hz2⟩ := info_parts Tryd.infoU8
  have HI := Lib.hid hi
  have HZ0 := Lib.hid hz0
  have HZ1 := Lib.hid hz1
  have HZ2 := Lib.hid hz2
  have hW : ∃ W : World, Hid (W = w.alloc (.cells #[.slice A fs.length c] 24)) := ⟨_, rfl⟩
  obtain ⟨W, HW⟩ := hW
  have hb : Below w.heap.size w W := by rw [HW.out]; exact (Below.refl _ _).alloc (Nat.le_refl _) _
  have HB := Lib.hid hb
  have HT := Lib.hid (hT.step hb)
  have HF := Lib.hid (hf.step hb)
  have HFW := Lib.hid hf
  have HTW := Lib.hid hT
  have HX := Lib.hid (codeFits_any A c fs W HT.out hn HF.out)
  have HBP := Lib.hid (show Blk W w.heap.size 24 #[.slice A fs.length c] by rw [HW.out]; exact Blk.new _ _ _)
  have HFP := Lib.hid (fun h => fitsP_of (fs := fs) h)
  have hout : ∀ w', fitsP fs = false → PrintOut w.heap.size fs (.returned (.tuple #[.slice none 0 0, .int .i64 1])) w' := fun w' h => by
    unfold PrintOut printOk
    rw [h]
    rfl
  have HOUT := Lib.hid hout
  have hbadf : ∀ (f : Fn) (i : Ins), f ∈ fs → i ∈ f.code → badI i = true → ∀ w', PrintOut w.heap.size fs (.returned (.tuple #[.slice none 0 0, .int .i64 1])) w' := fun f i h1 h2 h3 w' => by
    have h4 : printOk fs = false := by
      unfold printOk
      have h5 : fs.all goodF = false := by
        rw [List.all_eq_false]
        refine ⟨f, h1, ?_⟩
        have h6 : goodF f = false := by
          unfold goodF
          rw [List.all_eq_false]
          exact ⟨i, h2, by simp [h3]⟩
        simp [h6]
      rw [h5, Bool.and_false]
    unfold PrintOut
    rw [h4]
    rfl
  have HBADF := Lib.hid hbadf
  have j0 := HBP.out.cell 0
  simp only [List.getElem?_toArray, List.getElem?_cons_zero] at j0
  clear hT hf hb hn hi hz0 hz1 hz2 hout hbadf
  generalize hp : fitsP fs = q at *
  have HP := Lib.hid hp
  clear hp
  go_enter Tryd.func11, Tryd.ntmps11
  go_wp2_with fail
  rw [← HW.out]
  refine HX.out.mono ?_
  rintro e w1 ⟨rfl, hb1⟩
  have HB1 := Lib.hid (HB.out.trans (hb1.mono HB.out.size))
  have HBP1 := Lib.hid (HBP.out.below hb1 HBP.out.lt)
  have HT1 := Lib.hid (HT.out.step hb1)
  have HF1 := Lib.hid (HF.out.step hb1)
  have k0 := HBP1.out.cell 0
  simp only [List.getElem?_toArray, List.getElem?_cons_zero] at k0
  have hlt0 : w.heap.size < w1.heap.size := HBP1.out.lt
  clear hb1
  cases q with
  | false =>
    go_wp2_with fail
    go_ret2
    exact ⟨HOUT.out _ (by trivial), HB1.out⟩
  | true =>
    go_wp2_with fail
    obtain ⟨hl16, hfs⟩ := HFP.out trivial
    have HFS := Lib.hid hfs
    have HL16 := Lib.hid hl16
    have e255 : ((fs.length : Nat) : Int) % 256 = fs.length := by omega
    have E255 := Lib.hid e255
    clear hfs hl16 HFP HOUT
    have hst : PSt w (w1.alloc (.cells #[.int .u8 ((fs.length : Int) % 256)] 5)) (some ⟨w1.heap.size, 0, none⟩) 1 1 [fs.length] := by
      refine ⟨?_, rfl, HB1.out.alloc HB1.out.size _⟩
      have h := World.ownsRow_lit (base := w.heap.size) (e := 5) (size := 1) w1 #[.int .u8 ((fs.length : Int) % 256)] 1 HB1.out.size (by unfold maxLen; omega) (by simp)
      have e : (#[.int .u8 ((fs.length : Int) % 256)] : Array Value).toList = byteVals [fs.length] := by simp [byteVals, E255.out]
      rw [e] at h
      exact h
    have HST := Lib.hid hst
    clear hst e255
    have hm : ∃ n : Nat, Hid (n = fs.length) := ⟨_, rfl⟩
    obtain ⟨n, HN⟩ := hm
    rw [← HN.out]
    have hn16 : n ≤ 16 := by have := HL16.out; have := HN.out; omega
    go_loopw [4, 21] (fun v4 vi wr => ∃ (k : Nat) (O : Option Addr) (m cO : Nat), k ≤ n ∧ vi = .int .i64 k ∧ v4 = .slice O m cO ∧ Hid (PSt w wr O m cO (fs.length :: (fs.take k).flatMap fnB)) ∧ Hid (∀ f ∈ fs.take k, goodF f = true)) (fun _ vi _ => n - (intOf vi).toNat)
    case atStart =>
      refine ⟨0, _, _, _, Nat.zero_le _, rfl, rfl, ?_, ?_⟩
      · rw [HN.out]
        simpa using HST
      · intro f hf
        simp at hf
    case round =>
      obtain ⟨k, O, m, cO, hk, rfl, rfl, HS, HG⟩ := hrel
      by_cases hlt : k < n
      · have hkl : k < fs.length := by rw [← HN.out]; exact hlt
        obtain ⟨b, off, a, eA, hbb, c0, c1, hfn⟩ := HFW.out.at_ k hkl
        subst eA
        have HFK := Lib.hid hfn
        have hff := HFS.out fs[k] (List.getElem_mem hkl)
        have hmb : m ≤ 12801 := by
          have h := HS.out.len
          have h2 := flat_le fnB 800 (fs.take k) (fun f hf => fnB_le (HFS.out f (List.mem_of_mem_take hf)).1 (HFS.out f (List.mem_of_mem_take hf)).2.1)
          have h3 : (fs.take k).length ≤ 16 := by rw [List.length_take]; have := HL16.out; omega
          rw [List.length_cons] at h
          omega
        have HTK := Lib.hid (List.take_succ_eq_append_getElem hkl)
        have HMF := Lib.hid (show fs[k] ∈ fs from List.getElem_mem hkl)
        generalize fs[k] = f at *
        obtain ⟨C, fn, fc, S, fm, fd⟩ := a
        simp only at c0 c1
        replace c0 := (HS.out.bel.cell (p := ⟨b, off + k * 2, none⟩) hbb).trans c0
        replace c1 := (HS.out.bel.cell (p := ⟨b, off + k * 2 + 1, none⟩) hbb).trans c1
        have hfn64 : fn ≤ 64 := by have := HFK.out.1; simp only at this; omega
        have HFF := Lib.hid hff
        have hbl : b < wr.heap.size := Nat.lt_of_lt_of_le hbb HS.out.bel.size
        clear hfn hff hbb
        have hw3 : ∃ w3 : World, Hid (w3 = (wr.alloc (.cells #[.slice C fn fc, .slice S fm fd] 31)).alloc (.cells #[.int .u8 (fn : Int)] 5)) := ⟨_, rfl⟩
        obtain ⟨w3, HW3⟩ := hw3
        have HS3 := Lib.hid (show PSt w w3 O m cO _ by rw [HW3.out]; exact (HS.out.alloc _).alloc _)
        have HK3 := Lib.hid (show Kept w3 O wr.heap.size 31 #[.slice C fn fc, .slice S fm fd] by rw [HW3.out]; exact (HS.out.new _ _).alloc _)
        have HR3 := Lib.hid (show Row w3 (wr.heap.size + 1 + 1) (some ⟨wr.heap.size + 1, 0, none⟩) (byteVals [fn]) by
          rw [HW3.out]
          have h := row_lit (w := wr.alloc (.cells #[.slice C fn fc, .slice S fm fd] 31)) (cs := #[.int .u8 (fn : Int)]) (l := [fn]) 5 (by simp [byteVals])
          rw [World.size_alloc] at h
          exact h)
        go_wp2_with (at_builtin; (try rw [← HW3.out]); go_must (refine wpList_append_bytes rfl _ _ rfl O m cO _ rfl HS3.out _ 1 1 _ [fn] rfl rfl HR3.out (by omega) ?_); intro O5 c5 w5 HS5 HK5; have KF5 := Lib.hid (HK5.out _ _ _ HK3.out); have u0 := KF5.out.1.cell 0; simp only [List.getElem?_toArray, List.getElem?_cons_zero] at u0)
        have hgf : ∃ gF : Nat, Hid (gF = wr.heap.size) := ⟨_, rfl⟩
        obtain ⟨gF, HGF⟩ := hgf
        have hL1 : ∃ L1 : List Nat, Hid (L1 = fs.length :: (fs.take k).flatMap fnB ++ [fn]) := ⟨_, rfl⟩
        obtain ⟨L1, HL1⟩ := hL1
        rw [← HL1.out] at HS5
        rw [← HGF.out] at KF5
        rw [← HGF.out]
        clear HK5 HK3 HR3 HS3 u0
        go_loopw [4, 35] (fun v4 vi wq => ∃ (j : Nat) (O : Option Addr) (m2 cO : Nat), j ≤ fn ∧ vi = .int .i64 j ∧ v4 = .slice O m2 cO ∧ Hid (PSt w wq O m2 cO (L1 ++ (f.code.take j).flatMap insB)) ∧ Hid (Kept wq O gF 31 #[.slice C fn fc, .slice S fm fd]) ∧ Hid (∀ i ∈ f.code.take j, badI i = false)) (fun _ vi _ => fn - (intOf vi).toNat)
        case atStart =>
          refine ⟨0, _, _, _, Nat.zero_le _, rfl, rfl, ?_, KF5, ?_⟩
          · simpa using HS5
          · intro i hi
            simp at hi
        case round =>
          obtain ⟨j, O2, m2, cO2, hj, rfl, rfl, HS2, HK2, HB2⟩ := hrel
          clear HS5 KF5
          by_cases hjlt : j < fn
          · have hjl : j < f.code.length := by have := HFK.out.1; simp only at this; omega
            obtain ⟨bc, offc, eC, hbc, d0, d1, d2, d3, d4⟩ := (HFK.out.below HS2.out.bel).ins5 j hjl
            simp only at eC
            have hfit := HFF.out.2.2 f.code[j] (List.getElem_mem hjl)
            have HTJ := Lib.hid (List.take_succ_eq_append_getElem hjl)
            have hm2 : m2 ≤ 14000 := by
              have h := HS2.out.len
              have h1 : L1.length = m + 1 := by rw [HL1.out]; have := HS.out.len; simp at this ⊢; omega
              have h2 := flat_le insB 12 (f.code.take j) (fun i _ => insB_len i)
              have h3 : (f.code.take j).length ≤ 64 := by rw [List.length_take]; have := HFF.out.1; omega
              rw [List.length_append] at h
              omega
            have HMI := Lib.hid (show f.code[j] ∈ f.code from List.getElem_mem hjl)
            generalize f.code[j] = i at *
            obtain ⟨f1, f2, f3, f4⟩ := fitsI_of hfit
            obtain ⟨op, ia, ib, ic, inn⟩ := i
            simp only at f1 f2 f3 f4 d0 d1 d2 d3 d4
            obtain ⟨xo, rfl⟩ := Int.eq_ofNat_of_zero_le f1.1
            obtain ⟨xa, rfl⟩ := Int.eq_ofNat_of_zero_le f2.1
            obtain ⟨xb, rfl⟩ := Int.eq_ofNat_of_zero_le f3.1
            obtain ⟨xc, rfl⟩ := Int.eq_ofNat_of_zero_le f4.1
            have g1 : xo < 24 := by omega
            have g2 : xa ≤ 255 := by omega
            have g3 : xb ≤ 255 := by omega
            have g4 : xc ≤ 255 := by omega
            subst eC
            have hbcl : bc < wr.heap.size := Nat.lt_of_lt_of_le hbc HS2.out.bel.size
            clear f1 f2 f3 f4 hfit hbc
            have hw4 : ∃ w4 : World, Hid (w4 = (wr.alloc (.cells #[.int .i64 (xo : Int), .int .i64 (xa : Int), .int .i64 (xb : Int), .int .i64 (xc : Int), .int .i64 inn] 33)).alloc (.cells #[.int .u8 (xo : Int), .int .u8 (xa : Int), .int .u8 (xb : Int), .int .u8 (xc : Int)] 5)) := ⟨_, rfl⟩
            obtain ⟨w4, HW4⟩ := hw4
            have HS4 := Lib.hid (show PSt w w4 O2 m2 cO2 _ by rw [HW4.out]; exact (HS2.out.alloc _).alloc _)
            have HKI4 := Lib.hid (show Kept w4 O2 wr.heap.size 33 #[.int .i64 (xo : Int), .int .i64 (xa : Int), .int .i64 (xb : Int), .int .i64 (xc : Int), .int .i64 inn] by rw [HW4.out]; exact (HS2.out.new _ _).alloc _)
            have HKF4 := Lib.hid (show Kept w4 O2 gF 31 #[.slice (some ⟨bc, offc, none⟩) fn fc, .slice S fm fd] by rw [HW4.out]; exact (HK2.out.alloc _).alloc _)
            have HR4 := Lib.hid (show Row w4 (wr.heap.size + 1 + 1) (some ⟨wr.heap.size + 1, 0, none⟩) (byteVals [xo, xa, xb, xc]) by
              rw [HW4.out]
              have h := row_lit (w := wr.alloc (.cells #[.int .i64 (xo : Int), .int .i64 (xa : Int), .int .i64 (xb : Int), .int .i64 (xc : Int), .int .i64 inn] 33)) (cs := #[.int .u8 (xo : Int), .int .u8 (xa : Int), .int .u8 (xb : Int), .int .u8 (xc : Int)]) (l := [xo, xa, xb, xc]) 5 (by simp [byteVals])
              rw [World.size_alloc] at h
              exact h)
            go_wp2_with (at_builtin; (try rw [← HW4.out]); go_must (refine wpList_append_bytes rfl _ _ rfl O2 m2 cO2 _ rfl HS4.out _ 4 4 _ [xo, xa, xb, xc] rfl rfl HR4.out (by omega) ?_); intro O6 c6 w6 HS6 HK6; have KF6 := Lib.hid (HK6.out _ _ _ HKF4.out); have KI6 := Lib.hid (HK6.out _ _ _ HKI4.out); have u0 := KI6.out.1.cell 0; simp only [List.getElem?_toArray, List.getElem?_cons_zero] at u0)
            refine (long_any xo w6 (HTW.out.step HS6.out.bel)).mono ?_
            rintro e w7 ⟨rfl, hb7⟩
            have HS7 := Lib.hid (HS6.out.below hb7)
            have KF7 := Lib.hid (KF6.out.below hb7)
            have KI7 := Lib.hid (KI6.out.below hb7)
            have v4 := KI7.out.1.cell 4
            simp only [List.getElem?_toArray, List.getElem?_cons_zero, List.getElem?_cons_succ] at v4
            have hgi : ∃ gI : Nat, Hid (gI = wr.heap.size) := ⟨_, rfl⟩
            obtain ⟨gI, HGI⟩ := hgi
            rw [← HGI.out] at KI7 v4
            rw [← HGI.out]
            have hL2 : ∃ L2 : List Nat, Hid (L2 = L1 ++ (f.code.take j).flatMap insB ++ [xo, xa, xb, xc]) := ⟨_, rfl⟩
            obtain ⟨L2, HL2⟩ := hL2
            rw [← HL2.out] at HS7
            clear hb7 u0 HS6 KF6 KI6 HK6 HR4 HKF4 HKI4 HS4 d0 d1 d2 d3 d4
            cases hlb : longB xo with
            | false =>
              have HLB := Lib.hid hlb
              clear hlb
              by_cases hz : inn = 0
              · subst hz
                have hLe : L1 ++ (f.code.take (j + 1)).flatMap insB = L2 := by
                  rw [HTJ.out, HL2.out, List.flatMap_append, List.append_assoc]
                  simp [insB, headB, HLB.out]
                have HLE := Lib.hid hLe
                clear hLe
                go_wp2_with fail
                refine ⟨⟨j + 1, O6, m2 + 4, c6, by omega, by simp, rfl, by rw [HLE.out]; exact HS7, KF7, ?_⟩, by simp [intOf]; omega⟩
                intro i hi
                rw [HTJ.out, List.mem_append] at hi
                rcases hi with hi | hi
                · exact HB2.out i hi
                · rw [List.mem_singleton] at hi
                  subst hi
                  simp [badI]
              · have HBAD := Lib.hid (HBADF.out _ _ HMF.out HMI.out (by simp [badI, HLB.out, hz]) w7)
                go_wp2_with fail
                go_ret2
                exact ⟨HBAD.out, HS7.out.bel⟩
            | true =>
              have HLB := Lib.hid hlb
              clear hlb
              go_wp2_with fail
              go_loopw [4, 9] (fun v4 vi wr => ∃ (q : Nat) (z : Int) (O : Option Addr) (m3 cO : Nat), q ≤ 8 ∧ z = 7 - (q : Int) ∧ vi = .int .i64 z ∧ v4 = .slice O m3 cO ∧ Hid (PSt w wr O m3 cO (L2 ++ (numB inn).take q)) ∧ Hid (Kept wr O gF 31 #[.slice (some ⟨bc, offc, none⟩) fn fc, .slice S fm fd]) ∧ Hid (Kept wr O gI 33 #[.int .i64 (xo : Int), .int .i64 (xa : Int), .int .i64 (xb : Int), .int .i64 (xc : Int), .int .i64 inn])) (fun _ vi _ => (intOf vi + 1).toNat)
              case atStart => exact ⟨0, 7, _, _, _, by omega, by omega, rfl, rfl, by rw [List.take_zero, List.append_nil]; exact HS7, KF7, KI7⟩
              case round =>
                obtain ⟨q, z, O8, m8, cO8, hq8, hz, rfl, rfl, HS8, KF8, KI8⟩ := hrel
                have v4 := KI8.out.1.cell 4
                simp only [List.getElem?_toArray, List.getElem?_cons_zero, List.getElem?_cons_succ] at v4
                have hm8 : m8 ≤ 15000 := by
                  have h := HS8.out.len
                  have h1 := HS7.out.len
                  rw [List.length_append, List.length_take] at h
                  omega
                have hgl : gI < wr.heap.size := KI8.out.1.lt
                clear HS7 KF7 KI7
                by_cases hq : q < 8
                · have hbb : ∃ bb : Nat, Hid (bb = byteN inn (7 - q)) := ⟨_, rfl⟩
                  obtain ⟨bb, HBB⟩ := hbb
                  have HQ := Lib.hid (numB_take inn q hq)
                  rw [← HBB.out] at HQ
                  rcases (by omega : (q = 0 ∧ z = 7) ∨ (q = 1 ∧ z = 6) ∨ (q = 2 ∧ z = 5) ∨ (q = 3 ∧ z = 4) ∨ (q = 4 ∧ z = 3) ∨ (q = 5 ∧ z = 2) ∨ (q = 6 ∧ z = 1) ∨ (q = 7 ∧ z = 0)) with ⟨hq0, rfl⟩ | ⟨hq0, rfl⟩ | ⟨hq0, rfl⟩ | ⟨hq0, rfl⟩ | ⟨hq0, rfl⟩ | ⟨hq0, rfl⟩ | ⟨hq0, rfl⟩ | ⟨hq0, rfl⟩
                  all_goals
                    have HQ0 := Lib.hid hq0
                    clear hq8 hz hq hq0
                    go_wp2_with (at_builtin; go_must (refine wpList_append_bytes rfl _ _ rfl O8 m8 cO8 _ rfl (HS8.out.alloc _) _ 1 1 _ [bb] rfl rfl (row_lit 5 (by rw [HBB.out, HQ0.out]; simp [byteVals, byteN]; omega)) (by omega) ?_); intro O9 c9 w9 HS9 HK9)
                    refine ⟨⟨q + 1, _, O9, m8 + 1, c9, ?_, ?_, rfl, rfl, by rw [← HQ.out, ← List.append_assoc]; exact HS9, HK9.out _ _ _ (KF8.out.alloc _), HK9.out _ _ _ (KI8.out.alloc _)⟩, by simp [intOf]⟩
                    · have := HQ0.out; omega
                    · have := HQ0.out; omega
                · have hz1 : z = -1 := by omega
                  subst hz1
                  have hq1 : q = 8 := by omega
                  subst hq1
                  have hLe : L1 ++ (f.code.take (j + 1)).flatMap insB = L2 ++ (numB inn).take 8 := by
                    rw [HTJ.out, HL2.out, List.flatMap_append, List.append_assoc, List.append_assoc, numB_all]
                    simp [insB, headB, HLB.out]
                  have HLE := Lib.hid hLe
                  clear hLe hz hq hq8
                  go_wp2_with fail
                  refine ⟨⟨j + 1, O8, m8, cO8, by omega, by simp, rfl, by rw [HLE.out]; exact HS8, KF8, ?_⟩, by simp [intOf]; omega⟩
                  intro i hi
                  rw [HTJ.out, List.mem_append] at hi
                  rcases hi with hi | hi
                  · exact HB2.out i hi
                  · rw [List.mem_singleton] at hi
                    subst hi
                    simp [badI, HLB.out]
          · have hjn : j = fn := by omega
            subst hjn
            have hcl : f.code.take j = f.code := List.take_of_length_le (by have := HFK.out.1; simp only at this; omega)
            rw [hcl] at HS2 HB2
            have u1 := HK2.out.1.cell 1
            simp only [List.getElem?_toArray, List.getElem?_cons_zero, List.getElem?_cons_succ] at u1
            have hglf : gF < wr.heap.size := HK2.out.1.lt
            clear hcl
            have hsl : f.safe.length = fm := HFK.out.2.1.symm
            have hsm : fm ≤ 64 := by have := HFF.out.1; have := HFF.out.2.1; omega
            have HROW := Lib.hid (show Row wr wr.heap.size S (boolVals f.safe) from (HFK.out.2.2.2.1.below HS2.out.bel).more HS2.out.bel.size)
            have HSL := Lib.hid hsl
            have hm2 : m2 ≤ 14000 := by
              have h := HS2.out.len
              have h1 : L1.length = m + 1 := by rw [HL1.out]; have := HS.out.len; simp at this ⊢; omega
              have h2 := flat_le insB 12 f.code (fun i _ => insB_len i)
              have h3 := HFF.out.1
              rw [List.length_append] at h
              omega
            clear hsl
            go_wp2_with fail
            refine (bmOf_any S fm fd f.safe wr HSL.out (by omega) HROW.out).mono ?_
            rintro e w9 ⟨g, gw, ws, rfl, M, _, _, hb9⟩
            have HS9 := Lib.hid (HS2.out.below hb9)
            have HM := Lib.hid M
            clear M hb9 u1
            go_wp2_with fail
            refine (bytes_any HM.out).mono ?_
            rintro e w10 ⟨X, cX, rfl, hX, hb10⟩
            have HS10 := Lib.hid (HS9.out.below hb10)
            have HX10 := Lib.hid (show Row w10 w10.heap.size X (byteVals (bytesOf f.safe)) from hX.row)
            have hbl8 : (bytesOf f.safe).length ≤ 100 := by
              have := HSL.out
              unfold bytesOf
              simp only [List.length_append, List.length_map, List.length_range, List.length_cons, List.length_nil]
              omega
            have hLe : L1 ++ f.code.flatMap insB ++ bytesOf f.safe = fs.length :: (fs.take (k + 1)).flatMap fnB := by
              rw [HTK.out, HL1.out, List.flatMap_append]
              have h1 := HFK.out.1
              simp only at h1
              simp [fnB, h1]
            have HLE := Lib.hid hLe
            have hbx : ∃ bl : List Nat, Hid (bl = bytesOf f.safe) := ⟨_, rfl⟩
            obtain ⟨bl, HBLL⟩ := hbx
            rw [← HBLL.out] at HX10 hbl8 HLE ⊢
            have hmx : ∃ mx : Nat, Hid (bl.length = mx) := ⟨_, rfl⟩
            obtain ⟨mx, HMX⟩ := hmx
            rw [HMX.out] at hbl8 ⊢
            clear hX hb10 hLe
            go_wp2_with (at_builtin; go_must (refine wpList_append_bytes rfl _ _ rfl O2 m2 cO2 _ rfl HS10.out X mx cX _ bl rfl HMX.out HX10.out (by omega) ?_); intro O11 c11 w11 HS11 HK11)
            refine ⟨⟨k + 1, O11, m2 + mx, c11, by omega, by simp, rfl, by rw [← HLE.out]; exact HS11, ?_⟩, by simp [intOf]; omega⟩
            intro f' hf'
            rw [HTK.out, List.mem_append] at hf'
            rcases hf' with hf' | hf'
            · exact HG.out f' hf'
            · rw [List.mem_singleton] at hf'
              subst hf'
              unfold goodF
              rw [List.all_eq_true]
              intro i hi
              rw [HB2.out i hi]
              rfl
      · have hkn : fs.take k = fs := List.take_of_length_le (by have := HN.out; omega)
        rw [hkn] at HS HG
        have hok : printOk fs = true := by
          unfold printOk
          rw [HP.out, Bool.true_and, List.all_eq_true]
          exact HG.out
        have HOK := Lib.hid hok
        clear HST hok hkn
        go_wp2_with fail
        go_ret2
        refine ⟨?_, HS.out.bel⟩
        unfold PrintOut
        rw [if_pos HOK.out]
        have hl := HS.out.len
        have hown := HS.out.own
        rw [← hl] at hown ⊢
        exact ⟨O, cO, rfl, hown⟩
end Go.Proofs.YthcbceaeobnmgaaDoor

/-
  Chapter 33: alive, and the walk of GenDice. Condition: the table is laid; the numbers lie in memory.
-/
import Derived.Test.YtlkmpafendggiaaDoorGen3
namespace Go.Proofs.YtlkmpafendggiaaDoor
open Go.RowKit
theorem told_one : told 1 = 908834774 := by decide
set_option maxHeartbeats 4000000 in
set_option maxRecDepth 100000 in
theorem alive33 (w : World) (hT : Tab w) : Calls Tryd.prog 33 #[] w fun e w' => e = .returned (.bool true) ∧ Below w.heap.size w w' := by
  have HT := Lib.hid hT
  clear hT
  go_enter Tryd.func33, Tryd.ntmps33
  go_wp2_with fail
  refine (rounds_any 3 (by omega) (by omega) _ HT.out).mono ?_
  rintro e w1 ⟨A, c, rfl, hf, hb⟩
  obtain ⟨b, off, a, eA, hbb, c0, -, hfn⟩ := hf.at_ 0 (by simp [mendP, roundsP])
  have han : a.n = 6 := by rw [hfn.1]; simp [mendP, roundsP, mendF]
  subst eA
  rw [han, Nat.zero_mul, Nat.add_zero] at c0
  have hl : (roundsP 3).length = 2 := rfl
  rw [hl]
  have H1 := Lib.hid hb
  clear hf hfn han hb hl
  go_wp2_with fail
  refine (dnew_any _ _).mono ?_
  rintro e w2 ⟨rfl, rfl⟩
  have hbd := Blk.new (w1.alloc (.cells #[.slice (some ⟨b, off, none⟩) 2 c] 32)) 73 #[.int .u64 1]
  rw [World.size_alloc] at hbd
  have HBD := Lib.hid hbd
  clear hbd
  go_wp2_with fail
  refine (dnext_any _ 1 _ HBD.out).mono ?_
  rintro e w3 ⟨rfl, ht⟩
  rw [told_one]
  have hB2 : Below w1.heap.size w1 w3 := (((Below.refl _ _).alloc (Nat.le_refl _) _).alloc (by simp) _).grown ht.1 (by simp; omega) (fun k hk => by injection hk with hk; omega)
  have HB2 := Lib.hid hB2
  clear ht hB2
  go_wp2_with fail
  go_ret
  exact ⟨by simp, H1.out.trans (HB2.out.mono H1.out.size)⟩
/-- The number behind the first k throws. -/
def thrown (x : Int) (zs : List Int) : Int := zs.foldl bnext x
theorem thrown_succ (x : Int) (zs : List Int) (k : Nat) (h : k < zs.length) : thrown x (zs.take (k + 1)) = bnext (thrown x (zs.take k)) zs[k] := by
  unfold thrown
  rw [List.take_succ_eq_append_getElem h, List.foldl_append]
  rfl
set_option maxHeartbeats 4000000 in
set_option maxRecDepth 100000 in
theorem dice33 (x : Int) (A : Option Addr) (n c : Nat) (zs : List Int) (w : World) (hT : Tab w) (hl : zs.length = n) (hm : n ≤ maxLen) (hz : ∀ z ∈ zs, I64 z) (hr : Row w w.heap.size A (ints zs)) :
    Calls Tryd.prog 7 #[.int .u64 x, .slice A n c] w fun e w' => e = .returned (.bool true) ∧ Below w.heap.size w w' := by
  unfold maxLen at hm
  have HT := Lib.hid hT
  have HL := Lib.hid hl
  have HZ := Lib.hid hz
  have HR := Lib.hid hr
  clear hT hl hz hr
  by_cases h100 : 100 < n
  · go_enter Tryd.func7, Tryd.ntmps7
    go_wp2_with fail
    refine (alive33 _ HT.out).mono ?_
    rintro e w1 ⟨rfl, hb⟩
    go_wp2_with fail
    go_ret
    exact ⟨rfl, hb⟩
  · go_enter Tryd.func7, Tryd.ntmps7
    go_wp2_with fail
    refine (dnew_any _ _).mono ?_
    rintro e w2 ⟨rfl, rfl⟩
    have HB0 := Lib.hid (show Below w.heap.size w (w.alloc (.cells #[.int .u64 x] 73)) from (Below.refl _ _).alloc (Nat.le_refl _) _)
    have HD0 := Lib.hid (Blk.new w 73 #[.int .u64 x])
    go_wp2_with fail
    go_loopw [6, 7] (fun v6 vi wr => ∃ k : Nat, k ≤ n ∧ vi = .int .i64 k ∧ v6 = .int .u64 (thrown x (zs.take k)) ∧ Blk wr w.heap.size 73 #[.int .u64 (thrown x (zs.take k))] ∧ Below w.heap.size w wr) (fun _ vi _ => n - (intOf vi).toNat)
    case atStart => exact ⟨0, by omega, rfl, rfl, HD0.out, HB0.out⟩
    case round =>
      obtain ⟨k, hk, rfl, rfl, hD, hB⟩ := hrel
      have HD := Lib.hid hD
      have HB := Lib.hid hB
      clear hD hB HD0 HB0
      by_cases hlt : k < n
      · have hkz : k < zs.length := by rw [HL.out]; exact hlt
        have HTS := Lib.hid (thrown_succ x zs k hkz)
        have hzk := HZ.out _ (List.getElem_mem hkz)
        obtain ⟨b, off, eA, hbb, hcx⟩ := (HR.out.below HB.out).at_ (k := k) (by simp [ints]; exact hkz)
        have hc0 := hcx k _ (ints_at_ zs k hkz)
        subst eA
        generalize zs[k] = z at *
        generalize thrown x (zs.take k) = y at *
        have HZK := Lib.hid hzk
        have HC := Lib.hid (show ∀ w', Below w.heap.size wr w' → w'.cell? ⟨b, off + k, none⟩ = some (.int .i64 z) from fun w' h => (h.cell (p := ⟨b, _, none⟩) hbb).trans hc0)
        clear hcx hzk
        go_wp2_with fail
        refine (rbelow_any y z HZK.out _).mono ?_
        rintro e w1 ⟨rfl, hb1⟩
        have hD1 := HD.out.below hb1 HD.out.lt
        have hc1 := HC.out w1 (hb1.mono HB.out.size)
        have HD1 := Lib.hid hD1
        have H1 := Lib.hid hb1
        clear hD1 hb1 hc0
        go_wp2_with fail
        refine (dbelow_any _ y z _ HZK.out HD1.out).mono ?_
        rintro e w3 ⟨rfl, ht⟩
        have HT3 := Lib.hid ht
        have hB3 : Below w.heap.size w w3 := (HB.out.trans (H1.out.mono HB.out.size)).grown ht.1 (Nat.le_trans HB.out.size H1.out.size) (fun k hk => by injection hk with hk; omega)
        have HB3 := Lib.hid hB3
        clear ht hB3 hc1
        generalize below y z = u at *
        generalize hY : bnext y z = y' at *
        have HY := Lib.hid hY
        clear hY
        go_wp2_with fail
        go_roundw
        case rel => exact ⟨k + 1, by omega, by go_num, by rw [HTS.out], by rw [HTS.out]; exact HT3.out.2.1, HB3.out⟩
        case measure => simp [intOf]; omega
      · have hkn : k = n := by omega
        subst hkn
        generalize thrown x (zs.take k) = y at *
        go_wp2_with fail
        refine (rnext_any _ _).mono ?_
        rintro e w1 ⟨rfl, rfl⟩
        go_wp2_with fail
        refine (dnext_any _ y _ HD.out).mono ?_
        rintro e w3 ⟨rfl, ht⟩
        have hB3 : Below w.heap.size w w3 := HB.out.grown ht.1 HB.out.size (fun k hk => by injection hk with hk; omega)
        have HB3 := Lib.hid hB3
        clear ht hB3
        generalize told y = t at *
        go_wp2_with fail
        refine (dnext_nil _).mono ?_
        rintro e w4 ⟨rfl, rfl⟩
        go_wp2_with fail
        refine (dbelow_nil 5 (i64_small _ (by omega) (by omega)) _).mono ?_
        rintro e w4 ⟨rfl, rfl⟩
        go_wp2_with fail
        refine (alive33 _ (HT.out.step HB3.out)).mono ?_
        rintro e w5 ⟨rfl, hb5⟩
        have HB5 := Lib.hid (HB3.out.trans (hb5.mono HB3.out.size))
        clear hb5
        go_wp2_with fail
        go_ret
        exact ⟨by simp, HB5.out⟩
end Go.Proofs.YtlkmpafendggiaaDoor

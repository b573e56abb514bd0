/-
  The law SpreadAll as a contract: it returns true, whatever is handed in.
-/
import Derived.Test.YtigbkihaclobgaaChk24
namespace Go.Proofs.Ytigbkihaclobgaa
open Go.RowKit
set_option maxHeartbeats 4000000 in
theorem all24 (A : Option Addr) (n c : Nat) (zs : List Int) (self ms : Int) (w : World) (hn : zs.length = n) (hself : I64 self) (hms : I64 ms) (hr : Row w w.heap.size A (ints zs)) :
    Calls Try.prog 3 #[.slice A n c, .int .i64 self, .int .i64 ms] w fun e w' => e = .returned (.bool true) ∧ Below w.heap.size w w' := by
  have HN := Lib.hid hn
  have HR := Lib.hid hr
  have HM := Lib.hid hms
  have HS := Lib.hid hself
  clear hn hr hms hself
  by_cases h300 : 300 < n
  · go_enter Try.func3, Try.ntmps3
    go_wp2_with (go_at_call 4; refine (alive24 _).mono ?_; rintro e w1 ⟨rfl, hb1⟩)
    go_ret
    exact ⟨rfl, hb1⟩
  · go_enter Try.func3, Try.ntmps3
    go_wp2_with fail
    refine (world_any _ _ _ zs _ _ _ HN.out (by omega) HM.out HR.out).mono ?_
    rintro e w1 ⟨⟨A1, B1, c1, d1, rfl, hrA, hrB⟩, hb1⟩
    have HP := Lib.hid (plan_ok zs self ms n)
    generalize planL zs self ms n = pl at *
    obtain ⟨gl, il⟩ := pl
    simp only at hrA hrB HP ⊢
    have hgz : ∃ gn : Nat, Hid (gn = gl.length) := ⟨_, rfl⟩
    obtain ⟨gn, HGN⟩ := hgz
    have hiz : ∃ inn : Nat, Hid (inn = il.length) := ⟨_, rfl⟩
    obtain ⟨inn, HIN⟩ := hiz
    have hgn' : gn ≤ 300 := by rw [HGN.out]; have := HP.out.len; omega
    have hin' : inn ≤ 300 := by rw [HIN.out]; have := HP.out.len; omega
    rw [← HGN.out, ← HIN.out]
    have hg : ∃ g : Nat, Hid (g = w1.heap.size) := ⟨_, rfl⟩
    obtain ⟨g, HG⟩ := hg
    have hw2 : ∃ w2 : World, Hid (w2 = w1.alloc (.cells #[.slice A1 gn c1, .slice B1 inn d1] 25)) := ⟨_, rfl⟩
    obtain ⟨w2, HW2⟩ := hw2
    have RA := Lib.hid (show Row w2 w2.heap.size A1 (ints gl) by rw [HW2.out]; exact hrA.alloc _)
    have RB := Lib.hid (show Row w2 w2.heap.size B1 (ints il) by rw [HW2.out]; exact hrB.alloc _)
    have HB2 := Lib.hid (show Below w.heap.size w w2 by rw [HW2.out]; exact hb1.alloc hb1.size _)
    have HG2 := Lib.hid (show Blk w2 g 25 #[.slice A1 gn c1, .slice B1 inn d1] by rw [HW2.out, HG.out]; exact Blk.new _ _ _)
    clear hrA hrB hb1
    obtain ⟨q0, q1⟩ := two_cells HG2.out
    go_wp2_with fail
    rw [← HW2.out, ← HG.out]
    rw [HGN.out, HIN.out]
    refine (check_any A1 B1 n c1 d1 gl il zs self ms w2 HP.out (by omega) HS.out RA.out RB.out).mono ?_
    rintro e w3 ⟨rfl, hb3⟩
    rw [← HGN.out, ← HIN.out]
    have RA3 := Lib.hid (RA.out.step hb3)
    have RB3 := Lib.hid (RB.out.step hb3)
    have HG3 := Lib.hid (HG2.out.below hb3 HG2.out.lt)
    have HB3 := Lib.hid (HB2.out.trans (hb3.mono HB2.out.size))
    have HR3 := Lib.hid (HR.out.step HB3.out)
    clear q0 q1 hb3
    obtain ⟨q0, q1⟩ := two_cells HG3.out
    go_wp2_with fail
    go_loop [8] (fun vi => ∃ k : Nat, k ≤ gn ∧ vi = .int .i64 k) (fun vi => gn - (intOf vi).toNat)
    case atStart => exact ⟨0, by omega, rfl⟩
    case round =>
      obtain ⟨k, hk, rfl⟩ := hrel
      by_cases hlt : k < gn
      · have hkl : k < gl.length := by rw [← HGN.out]; exact hlt
        obtain ⟨b, off, rfl, hbl, hcx⟩ := RA3.out.at_ (k := k) (by simp [ints]; exact hkl)
        have hc0 := hcx k _ (ints_at_ gl k hkl)
        obtain ⟨m1, m2, m3, m4⟩ := HP.out.g _ (List.getElem_mem hkl)
        generalize gl[k] = x at *
        obtain ⟨x, rfl⟩ := Int.eq_ofNat_of_zero_le m1
        have hxl : x < zs.length := by have := HN.out; omega
        obtain ⟨b2, off2, rfl, hbl2, hcx2⟩ := HR3.out.at_ (k := x) (by simp [ints]; exact hxl)
        have hc2 := hcx2 x _ (ints_at_ zs x hxl)
        have m5 : 0 < zs[x] := by simpa [hxl] using m4
        generalize zs[x] = z at *
        have m6 : x < n := by omega
        clear hcx hcx2 m4 m2 m1 m3
        go_wp2_with fail
        go_round
        case rel => exact ⟨k + 1, by omega, by go_num⟩
        case measure => simp [intOf]; omega
      · obtain rfl : k = gn := by omega
        go_wp2_with fail
        go_loop [9] (fun vi => ∃ k : Nat, k ≤ inn ∧ vi = .int .i64 k) (fun vi => inn - (intOf vi).toNat)
        case atStart => exact ⟨0, by omega, rfl⟩
        case round =>
          obtain ⟨j, hj, rfl⟩ := hrel
          by_cases hjt : j < inn
          · have hjl : j < il.length := by rw [← HIN.out]; exact hjt
            obtain ⟨b, off, rfl, hbl, hcx⟩ := RB3.out.at_ (k := j) (by simp [ints]; exact hjl)
            have hc0 := hcx j _ (ints_at_ il j hjl)
            obtain ⟨m1, m2, m3, m4⟩ := HP.out.i _ (List.getElem_mem hjl)
            generalize il[j] = x at *
            obtain ⟨x, rfl⟩ := Int.eq_ofNat_of_zero_le m1
            have hxl : x < zs.length := by have := HN.out; omega
            obtain ⟨b2, off2, rfl, hbl2, hcx2⟩ := HR3.out.at_ (k := x) (by simp [ints]; exact hxl)
            have hc2 := hcx2 x _ (ints_at_ zs x hxl)
            have m5 : 0 < zs[x] → ms ≤ k := by have := HGN.out; intro h; have := m4 (by simpa [hxl] using h); omega
            generalize zs[x] = z at *
            have m6 : x < n := by omega
            clear hcx hcx2 m4 m2 m1 m3
            by_cases hz : 0 < z
            · have m7 : ¬ ((k : Int) < ms) := by have := m5 hz; omega
              clear m5
              go_wp2_with fail
              go_round
              case rel => exact ⟨j + 1, by omega, by go_num⟩
              case measure => simp [intOf]; omega
            · clear m5
              have hz' : decide (0 < z) = false := by simpa using hz
              clear hz
              go_wp2_with fail
              go_round
              case rel => exact ⟨j + 1, by omega, by go_num⟩
              case measure => simp [intOf]; omega
          · obtain rfl : j = inn := by omega
            go_wp2_with (go_at_call 4; refine (alive24 _).mono ?_; rintro e w1 ⟨rfl, hb1⟩)
            go_ret
            exact ⟨rfl, HB3.out.trans (hb1.mono HB3.out.size)⟩
end Go.Proofs.Ytigbkihaclobgaa

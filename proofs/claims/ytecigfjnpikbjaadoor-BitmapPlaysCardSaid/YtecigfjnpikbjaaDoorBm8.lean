/-
  Chapter 5: contracts of the library's OnesCount64 and TrailingZeros64, of Count. Conditions: the map lies in memory, and the library's table.
-/
import Derived.Test.YtecigfjnpikbjaaDoorOnes
import Derived.Test.YtecigfjnpikbjaaDoorTabB
import Derived.Laws.Bits128
namespace Go.Proofs.YtecigfjnpikbjaaDoor
open Go.RowKit
theorem and_lit (a m : Nat) (ha : a < 18446744073709551616) (hm : m < 18446744073709551616) : bits .and .u64 (a : Int) (m : Int) = ((a &&& m : Nat) : Int) := bits_and_u64_nat a m ha hm
theorem wrap_u64_nat (a : Nat) (ha : a < 18446744073709551616) : IntKind.u64.wrap (a : Int) = (a : Int) := by rw [IntKind.wrap_u64]; omega
set_option maxHeartbeats 1000000 in
theorem ones_any (x : Nat) (hx : x < 18446744073709551616) (w : World) : Calls Tryd.prog 27 #[.int .u64 x] w fun e w' => e = .returned (.int .i64 (popB x 64)) ∧ w = w' := by
  have hfin := onesN_eq x hx
  unfold onesN at hfin
  simp only at hfin
  have hs := swar (bytes8 x 8) (bytes8_all 8 x)
  rw [bytes8_len, num8_bytes 8 x hx] at hs
  rw [show num8 (List.replicate 8 85) = 6148914691236517205 by decide, show num8 (List.replicate 8 51) = 3689348814741910323 by decide, show num8 (List.replicate 8 15) = 1085102592571150095 by decide] at hs
  simp only [bytes8, List.map_cons, List.map_nil] at hs
  have k1 : bits .and .u64 ((x : Int) / 2) 6148914691236517205 = ((x / 2 &&& 6148914691236517205 : Nat) : Int) := and_lit (x / 2) 6148914691236517205 (by omega) (by omega)
  have k2 : bits .and .u64 (x : Int) 6148914691236517205 = ((x &&& 6148914691236517205 : Nat) : Int) := and_lit x 6148914691236517205 hx (by omega)
  have b1 : x / 2 &&& 6148914691236517205 ≤ 6148914691236517205 := Nat.and_le_right
  have b2 : x &&& 6148914691236517205 ≤ 6148914691236517205 := Nat.and_le_right
  generalize hA : x / 2 &&& 6148914691236517205 = A at *
  generalize hB : x &&& 6148914691236517205 = B at *
  have k3 : IntKind.u64.wrap ((A : Int) + (B : Int)) = ((A + B : Nat) : Int) := wrap_u64_nat (A + B) (by omega)
  have b3 : A + B < 18446744073709551616 := by omega
  generalize hY : A + B = Y at *
  have k4 : bits .and .u64 ((Y : Int) / 4) 3689348814741910323 = ((Y / 4 &&& 3689348814741910323 : Nat) : Int) := and_lit (Y / 4) 3689348814741910323 (by omega) (by omega)
  have k5 : bits .and .u64 (Y : Int) 3689348814741910323 = ((Y &&& 3689348814741910323 : Nat) : Int) := and_lit Y 3689348814741910323 (by omega) (by omega)
  have b4 : Y / 4 &&& 3689348814741910323 ≤ 3689348814741910323 := Nat.and_le_right
  have b5 : Y &&& 3689348814741910323 ≤ 3689348814741910323 := Nat.and_le_right
  generalize hC : Y / 4 &&& 3689348814741910323 = C at *
  generalize hD : Y &&& 3689348814741910323 = D at *
  have k6 : IntKind.u64.wrap ((C : Int) + (D : Int)) = ((C + D : Nat) : Int) := wrap_u64_nat (C + D) (by omega)
  have b6 : C + D ≤ 7378697629483820646 := by omega
  generalize hZ : C + D = Z at *
  have k7 : IntKind.u64.wrap ((Z : Int) / 16 + (Z : Int)) = ((Z / 16 + Z : Nat) : Int) := wrap_u64_nat (Z / 16 + Z) (by omega)
  have b7 : Z / 16 + Z < 18446744073709551616 := by omega
  generalize hV : Z / 16 + Z = V at *
  have k8 : bits .and .u64 (V : Int) 1085102592571150095 = ((V &&& 1085102592571150095 : Nat) : Int) := and_lit V 1085102592571150095 (by omega) (by omega)
  generalize hU : V &&& 1085102592571150095 = U at *
  obtain ⟨_, g1, g2, g3, g4⟩ := last8 _ _ _ _ _ _ _ _ (pop8_le _) (pop8_le _) (pop8_le _) (pop8_le _) (pop8_le _) (pop8_le _) (pop8_le _) (pop8_le _) U _ _ _ hs rfl rfl rfl
  have k9 : IntKind.u64.wrap ((U : Int) + (U : Int) / 256) = ((U + U / 256 : Nat) : Int) := wrap_u64_nat (U + U / 256) (by omega)
  generalize hE : U + U / 256 = E at *
  have k10 : IntKind.u64.wrap ((E : Int) + (E : Int) / 65536) = ((E + E / 65536 : Nat) : Int) := wrap_u64_nat (E + E / 65536) (by omega)
  generalize hF : E + E / 65536 = F at *
  have k11 : IntKind.u64.wrap ((F : Int) + (F : Int) / 4294967296) = ((F + F / 4294967296 : Nat) : Int) := wrap_u64_nat (F + F / 4294967296) (by omega)
  generalize hG : F + F / 4294967296 = G at *
  have k12 : bits .and .i64 (G : Int) 127 = ((popB x 64 : Nat) : Int) := by rw [i64_and127, ← hfin]; omega
  have k13 : IntKind.i64.wrap (G : Int) = (G : Int) := IntWalk.i64_in _ (by omega)
  clear hs hfin hA hB hY hC hD hZ hV hU hE hF hG
  go_enter Tryd.func27, Tryd.ntmps27
  go_wp2_with fail
  go_ret
  exact ⟨rfl, rfl⟩
set_option maxHeartbeats 1000000 in
theorem tz_core (x k idx : Nat) (w : World) (hx0 : ((x : Int) == 0) = false)
    (key : IntKind.u64.wrap (bits BinOp.and IntKind.u64 (x : Int) (IntKind.u64.wrap (-(x : Int))) * 285870213051353865) / 288230376151711744 = (idx : Int))
    (hi : idx < 64) (hk : k < 64) (hcell : w.cell? ⟨0, idx, none⟩ = some (.int .u8 k)) :
    Calls Tryd.prog 28 #[.int .u64 x] w fun e w' => e = .returned (.int .i64 k) ∧ w = w' := by
  go_enter Tryd.func28, Tryd.ntmps28
  go_wp2_with (simp only [key])
  go_ret
  exact ⟨rfl, rfl⟩
theorem tz_any (x : Nat) (hx : x < 18446744073709551616) (hx0 : x ≠ 0) (w : World) (hT : Tab w) : Calls Tryd.prog 28 #[.int .u64 x] w fun e w' => e = .returned (.int .i64 (Lib.ctz 64 x)) ∧ w = w' := by
  obtain ⟨hlow, hk⟩ := Lib.lowest_bit 64 x hx0 hx
  obtain ⟨hi, htab⟩ := Lib.deBruijn64_at _ hk
  have hcell := hT _ hi
  rw [htab] at hcell
  exact tz_core x _ _ w (by simp; omega) (tz64_key x _ hx hx0 hlow) hi hk hcell
end Go.Proofs.YtecigfjnpikbjaaDoor

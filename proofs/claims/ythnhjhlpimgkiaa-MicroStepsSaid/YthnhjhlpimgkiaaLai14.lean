/-
  The law's Laid: where it says no.
-/
import Derived.Test.YthnhjhlpimgkiaaNew14
import Derived.Test.YthnhjhlpimgkiaaLdh14
import Derived.Test.YthnhjhlpimgkiaaPuc14
import Derived.LoopTactic
namespace Go.Proofs.Ythnhjhlpimgkiaa
open Go.RowKit
/-- Laid says no. -/
def LNo (w : World) (e : Ending) (w' : World) : Prop := e = .returned (.tuple #[.slice none 0 0, .bool false]) ∧ Below w.heap.size w w'
theorem laid_size {a nx size : Int} {A : Option Addr} {n c : Nat} {w : World} (h2 : size ≠ 2) (h4 : size ≠ 4) (h8 : size ≠ 8) :
    Calls Try.prog 17 #[.agg #[.int .u32 a, .slice A n c, .int .i64 nx], .int .i64 size] w fun e w' => LNo w e w' := by
  have k2 : (size == 2) = false := by simpa using h2
  have k4 : (size == 4) = false := by simpa using h4
  have k8 : (size == 8) = false := by simpa using h8
  go_enter Try.func17, Try.ntmps17
  go_wp2
  go_ret2
  exact ⟨rfl, (Below.refl _ _).alloc (Nat.le_refl _) _⟩
theorem laid_long {a nx : Int} {sz : Nat} {A : Option Addr} {n c : Nat} {w : World} (hs : sz = 2 ∨ sz = 4 ∨ sz = 8) (hn : sz < n) :
    Calls Try.prog 17 #[.agg #[.int .u32 a, .slice A n c, .int .i64 nx], .int .i64 sz] w fun e w' => LNo w e w' := by
  rcases hs with rfl | rfl | rfl
  all_goals
    go_enter Try.func17, Try.ntmps17
    go_wp2
    go_ret2
    exact ⟨rfl, (Below.refl _ _).alloc (Nat.le_refl _) _⟩
theorem laid_neg {a nx : Int} {sz : Nat} {A : Option Addr} {n c : Nat} {w : World} (hs : sz = 2 ∨ sz = 4 ∨ sz = 8) (hn : n ≤ sz) (hx : nx < 0) :
    Calls Try.prog 17 #[.agg #[.int .u32 a, .slice A n c, .int .i64 nx], .int .i64 sz] w fun e w' => LNo w e w' := by
  rcases hs with rfl | rfl | rfl
  all_goals
    go_enter Try.func17, Try.ntmps17
    go_wp2
    go_ret2
    exact ⟨rfl, (Below.refl _ _).alloc (Nat.le_refl _) _⟩
/-- The cells behind so many of the row. -/
def filled (a : Int) (sz : Nat) (row : List Int) (nx : Int) : Nat → List Int
  | 0 => [a, (u (a + row.length) : Int), nx] ++ List.replicate sz 0
  | k + 1 => (filled a sz row nx k).set (3 + u (a + k) % sz) (row.getD k 0)
theorem filled_length (a : Int) (sz : Nat) (row : List Int) (nx : Int) : ∀ k, (filled a sz row nx k).length = sz + 3
  | 0 => by simp [filled]
  | k + 1 => by simp [filled, filled_length a sz row nx k]
/-- Laid says yes. -/
def LYes (w : World) (a : Int) (sz : Nat) (row : List Int) (nx : Int) (e : Ending) (w' : World) : Prop :=
  ∃ g, e = .returned (.tuple #[.slice (some ⟨g, 0, none⟩) (sz + 3) (sz + 3), .bool true]) ∧ Blk w' g 2 (ints (filled a sz row nx row.length)).toArray ∧ w.heap.size ≤ g ∧ Below w.heap.size w w' ∧ ∀ x ∈ row, 1 ≤ x
theorem mk64 (k : Nat) (hk : k ≤ 4096) (w : World) : (Instr.makeSlice 31 (.int .i64 (k : Int)) (.int .i64 (k : Int))).run Try.prog w = .ok (.slice (some ⟨w.heap.size, 0, none⟩) k k) (w.alloc (.cells (List.replicate k (.int .i64 0)).toArray 2)) := by
  rw [← made_list]
  exact run_make_row' _ _ _ _ Try.underlying31 Try.info2 rfl _ _ k (by omega) (by omega) w
theorem ints_set (l : List Int) (i : Nat) (x : Int) : (ints l).toArray.setIfInBounds i (.int .i64 x) = (ints (l.set i x)).toArray := by
  simp [ints, List.map_set]
theorem laid_go2 {a nx : Int} {A : Option Addr} {n c : Nat} {row : List Int} {w : World} (ha : 0 ≤ a ∧ a < 4294967296) (hl : row.length = n) (hn : n ≤ 2) (hx : ¬ nx < 0) (hr : Row w w.heap.size A (ints row)) :
    Calls Try.prog 17 #[.agg #[.int .u32 a, .slice A n c, .int .i64 nx], .int .i64 2] w fun e w' => LNo w e w' ∨ LYes w a 2 row nx e w' := by
  obtain ⟨hn5, hd⟩ : ((n : Int) % 4294967296 = n) ∧ (a + n) % 4294967296 = (u (a + n) : Int) := ⟨by omega, mod_u _⟩
  have HR := Lib.hid hr
  have HL := Lib.hid hl
  obtain ⟨m, HM⟩ : ∃ m, Hid (m = w.heap.size) := ⟨_, Lib.hid rfl⟩
  have hm1 : (w.alloc (.cells #[.int .u32 a, .slice A n c, .int .i64 nx] 37)).heap.size = m + 1 := by rw [World.size_alloc, HM.out]
  have HB0 := Lib.hid (show Blk ((w.alloc (.cells #[.int .u32 a, .slice A n c, .int .i64 nx] 37)).alloc (.cells #[.int .i64 a, .int .i64 (u (a + n)), .int .i64 nx, .int .i64 0, .int .i64 0] 2)) m 37 #[.int .u32 a, .slice A n c, .int .i64 nx] by rw [HM.out]; exact (Blk.new _ _ _).alloc _)
  have HB1 := Lib.hid (show Blk ((w.alloc (.cells #[.int .u32 a, .slice A n c, .int .i64 nx] 37)).alloc (.cells #[.int .i64 a, .int .i64 (u (a + n)), .int .i64 nx, .int .i64 0, .int .i64 0] 2)) (m + 1) 2 (ints (filled a 2 row nx 0)).toArray by
    rw [← hm1]
    have := Blk.new (w.alloc (.cells #[.int .u32 a, .slice A n c, .int .i64 nx] 37)) 2 #[.int .i64 a, .int .i64 (u (a + n)), .int .i64 nx, .int .i64 0, .int .i64 0]
    rw [← hl] at this ⊢
    exact this)
  have HB2 := Lib.hid (show Below m w ((w.alloc (.cells #[.int .u32 a, .slice A n c, .int .i64 nx] 37)).alloc (.cells #[.int .i64 a, .int .i64 (u (a + n)), .int .i64 nx, .int .i64 0, .int .i64 0] 2)) by
    rw [HM.out]
    exact ((Below.refl _ w).alloc (Nat.le_refl _) _).alloc (by simp) _)
  have hmk : ∀ w, (Instr.makeSlice 31 (.int .i64 5) (.int .i64 5)).run Try.prog w = .ok (.slice (some ⟨w.heap.size, 0, none⟩) 5 5) (w.alloc (.cells #[.int .i64 0, .int .i64 0, .int .i64 0, .int .i64 0, .int .i64 0] 2)) :=
    mk64 5 (by omega)
  have hn' : ¬ (n : Int) > 2 := by omega
  rw [← HM.out] at HR
  unfold LNo LYes
  rw [← HM.out]
  clear hr hl hm1
  go_enter Try.func17, Try.ntmps17
  go_wp2_with fail
  rw [← HM.out]
  generalize ((w.alloc (.cells #[.int .u32 a, .slice A n c, .int .i64 nx] 37)).alloc (.cells #[.int .i64 a, .int .i64 (u (a + n)), .int .i64 nx, .int .i64 0, .int .i64 0] 2)) = W at HB0 HB1 HB2 ⊢
  clear hmk
  go_loopw [7] (fun vi wr => ∃ k : Nat, k ≤ n ∧ vi = .int .i64 k ∧ Hid (Blk wr (m + 1) 2 (ints (filled a 2 row nx k)).toArray) ∧ Hid (Blk wr m 37 #[.int .u32 a, .slice A n c, .int .i64 nx]) ∧ Hid (Below m w wr) ∧ Hid (∀ j (h : j < row.length), j < k → 1 ≤ row[j])) (fun vi _ => n - (intOf vi).toNat)
  case atStart => exact ⟨0, by omega, rfl, HB1, HB0, HB2, Lib.hid (fun j _ h => absurd h (by omega))⟩
  case round =>
    rcases hrel with ⟨k, hk, rfl, K1, K0, K2, K3⟩
    have q0 := (K0.out.cell 0)
    have q1 := (K0.out.cell 1)
    simp at q0 q1
    by_cases hlt : k < n
    · obtain ⟨b, off, rfl, hbl, hcx⟩ := (HR.out.below K2.out).at_ (k := k) (by have := HL.out; simp [ints]; omega)
      have hc0 := hcx k _ (ints_at_ row k (by have := HL.out; omega))
      obtain ⟨x, HX⟩ : ∃ x, Hid (x = row[k]'(by have := HL.out; omega)) := ⟨_, Lib.hid rfl⟩
      rw [← HX.out] at hc0
      clear hcx
      by_cases hx1 : x < 1
      · go_wp2_with fail
        go_ret2
        exact .inl ⟨rfl, K2.out⟩
      · have F0 : ∀ w', SB wr w' → w'.cell? ⟨m, 0, none⟩ = some (.int .u32 a) := fun w' h => h.cell K0.out q0
        have F1 : ∀ w', SB wr w' → w'.cell? ⟨m, 1, none⟩ = some (.slice (some ⟨b, off, none⟩) n c) := fun w' h => h.cell K0.out q1
        have F2 : ∀ w', SB wr w' → w'.cell? ⟨b, off + k, none⟩ = some (.int .i64 x) := fun w' h => (Below.cell (p := ⟨b, off + k, none⟩) h (Nat.lt_of_lt_of_le hbl (Nat.le_trans (Nat.le_of_eq HM.out) K2.out.size))).trans hc0
        have hk5 : (k : Int) % 4294967296 = k := by omega
        have hd2 : (a + k) % 4294967296 = (u (a + k) : Int) := mod_u _
        have hu := u_lt (a + k)
        have hp : 3 + u (a + k) % 2 < (filled a 2 row nx k).length := by rw [filled_length]; omega
        obtain ⟨y, qp⟩ : ∃ y, wr.cell? ⟨m + 1, 3 + u (a + k) % 2, none⟩ = some (.int .i64 y) := ⟨(filled a 2 row nx k)[3 + u (a + k) % 2]'hp, (K1.out.cell _).trans (by simp only [List.getElem?_toArray]; exact ints_at_ _ _ hp)⟩
        have fp := K1.out.frozen (3 + u (a + k) % 2)
        have KN := Lib.hid (show Blk (wr.setCell ⟨m + 1, 3 + u (a + k) % 2, none⟩ (.int .i64 x)).drew (m + 1) 2 (ints (filled a 2 row nx (k + 1))).toArray by
          have h := (K1.out.set_ (3 + u (a + k) % 2) (.int .i64 x)).drew
          rw [ints_set] at h
          have hg : row.getD k 0 = x := by
            rw [HX.out]
            simp [List.getD, show k < row.length by have := HL.out; omega]
          show Blk _ _ _ (ints ((filled a 2 row nx k).set (3 + u (a + k) % 2) (row.getD k 0))).toArray
          rw [hg]
          exact h)
        have KM := Lib.hid (show Blk (wr.setCell ⟨m + 1, 3 + u (a + k) % 2, none⟩ (.int .i64 x)).drew m 37 #[.int .u32 a, .slice (some ⟨b, off, none⟩) n c, .int .i64 nx] from (K0.out.far (by simp) _).drew)
        have KB := Lib.hid (show Below m w (wr.setCell ⟨m + 1, 3 + u (a + k) % 2, none⟩ (.int .i64 x)).drew from (K2.out.setCell (by show m ≤ m + 1; omega) _).drew)
        clear hp
        go_wp2_with fail
        refine region_schE (SB wr) [] [0, 1, 2, 3, 4, 5, 6, 7, 8, 9, 10, 11, 12, 13, 14, 15] 16 (by kernel_rfl) (by kernel_rfl) (by kernel_rfl) (fun _ _ d _ _ h => by cases d <;> exact h) (Below.refl _ _).drew ?_
        (try simp only [Act.put, List.setIfInBounds_toArray, List.set_cons_zero, List.set_cons_succ]); refine schE_last ?_; simp only [pickOps, List.getElem?_toArray, List.getElem?_cons_zero, List.getElem?_cons_succ]; (repeat (first | go_big_quiet_skip | (go_big_quiet_want; first | (go_big_quiet_op; first | go_big_quiet_on | ((first | with_reducible refine ⟨_, fun _ _ => rfl, ?_⟩); go_big_quiet_on)) | (simp (contextual := true) [go_sem, F0, F1, F2]; with_reducible refine ⟨_, fun _ _ => rfl, ?_⟩; go_big_quiet_on)))); refine wpQuiet_nil ?_
        clear F0 F1 F2
        go_wp2_with fail
        refine ⟨⟨k + 1, by omega, by go_num, KN, KM, KB, Lib.hid (fun j hj h => ?_)⟩, by simp [intOf]; omega⟩
        by_cases hjk : j < k
        · exact K3.out j hj hjk
        · obtain rfl : j = k := by omega
          rw [← HX.out]
          omega
    · obtain rfl : k = n := by omega
      go_wp2_with fail
      go_ret2
      refine .inr ⟨m + 1, rfl, by rw [HL.out]; exact K1.out, by omega, K2.out, ?_⟩
      intro y hy
      obtain ⟨j, hj, rfl⟩ := List.mem_iff_getElem.1 hy
      exact K3.out j hj (by have := HL.out; omega)
theorem laid_go4 {a nx : Int} {A : Option Addr} {n c : Nat} {row : List Int} {w : World} (ha : 0 ≤ a ∧ a < 4294967296) (hl : row.length = n) (hn : n ≤ 4) (hx : ¬ nx < 0) (hr : Row w w.heap.size A (ints row)) :
    Calls Try.prog 17 #[.agg #[.int .u32 a, .slice A n c, .int .i64 nx], .int .i64 4] w fun e w' => LNo w e w' ∨ LYes w a 4 row nx e w' := by
  obtain ⟨hn5, hd⟩ : ((n : Int) % 4294967296 = n) ∧ (a + n) % 4294967296 = (u (a + n) : Int) := ⟨by omega, mod_u _⟩
  have HR := Lib.hid hr
  have HL := Lib.hid hl
  obtain ⟨m, HM⟩ : ∃ m, Hid (m = w.heap.size) := ⟨_, Lib.hid rfl⟩
  have hm1 : (w.alloc (.cells #[.int .u32 a, .slice A n c, .int .i64 nx] 37)).heap.size = m + 1 := by rw [World.size_alloc, HM.out]
  have HB0 := Lib.hid (show Blk ((w.alloc (.cells #[.int .u32 a, .slice A n c, .int .i64 nx] 37)).alloc (.cells #[.int .i64 a, .int .i64 (u (a + n)), .int .i64 nx, .int .i64 0, .int .i64 0, .int .i64 0, .int .i64 0] 2)) m 37 #[.int .u32 a, .slice A n c, .int .i64 nx] by rw [HM.out]; exact (Blk.new _ _ _).alloc _)
  have HB1 := Lib.hid (show Blk ((w.alloc (.cells #[.int .u32 a, .slice A n c, .int .i64 nx] 37)).alloc (.cells #[.int .i64 a, .int .i64 (u (a + n)), .int .i64 nx, .int .i64 0, .int .i64 0, .int .i64 0, .int .i64 0] 2)) (m + 1) 2 (ints (filled a 4 row nx 0)).toArray by
    rw [← hm1]
    have := Blk.new (w.alloc (.cells #[.int .u32 a, .slice A n c, .int .i64 nx] 37)) 2 #[.int .i64 a, .int .i64 (u (a + n)), .int .i64 nx, .int .i64 0, .int .i64 0, .int .i64 0, .int .i64 0]
    rw [← hl] at this ⊢
    exact this)
  have HB2 := Lib.hid (show Below m w ((w.alloc (.cells #[.int .u32 a, .slice A n c, .int .i64 nx] 37)).alloc (.cells #[.int .i64 a, .int .i64 (u (a + n)), .int .i64 nx, .int .i64 0, .int .i64 0, .int .i64 0, .int .i64 0] 2)) by
    rw [HM.out]
    exact ((Below.refl _ w).alloc (Nat.le_refl _) _).alloc (by simp) _)
  have hmk : ∀ w, (Instr.makeSlice 31 (.int .i64 7) (.int .i64 7)).run Try.prog w = .ok (.slice (some ⟨w.heap.size, 0, none⟩) 7 7) (w.alloc (.cells #[.int .i64 0, .int .i64 0, .int .i64 0, .int .i64 0, .int .i64 0, .int .i64 0, .int .i64 0] 2)) :=
    mk64 7 (by omega)
  have hn' : ¬ (n : Int) > 4 := by omega
  rw [← HM.out] at HR
  unfold LNo LYes
  rw [← HM.out]
  clear hr hl hm1
  go_enter Try.func17, Try.ntmps17
  go_wp2_with fail
  rw [← HM.out]
  generalize ((w.alloc (.cells #[.int .u32 a, .slice A n c, .int .i64 nx] 37)).alloc (.cells #[.int .i64 a, .int .i64 (u (a + n)), .int .i64 nx, .int .i64 0, .int .i64 0, .int .i64 0, .int .i64 0] 2)) = W at HB0 HB1 HB2 ⊢
  clear hmk
  go_loopw [7] (fun vi wr => ∃ k : Nat, k ≤ n ∧ vi = .int .i64 k ∧ Hid (Blk wr (m + 1) 2 (ints (filled a 4 row nx k)).toArray) ∧ Hid (Blk wr m 37 #[.int .u32 a, .slice A n c, .int .i64 nx]) ∧ Hid (Below m w wr) ∧ Hid (∀ j (h : j < row.length), j < k → 1 ≤ row[j])) (fun vi _ => n - (intOf vi).toNat)
  case atStart => exact ⟨0, by omega, rfl, HB1, HB0, HB2, Lib.hid (fun j _ h => absurd h (by omega))⟩
  case round =>
    rcases hrel with ⟨k, hk, rfl, K1, K0, K2, K3⟩
    have q0 := (K0.out.cell 0)
    have q1 := (K0.out.cell 1)
    simp at q0 q1
    by_cases hlt : k < n
    · obtain ⟨b, off, rfl, hbl, hcx⟩ := (HR.out.below K2.out).at_ (k := k) (by have := HL.out; simp [ints]; omega)
      have hc0 := hcx k _ (ints_at_ row k (by have := HL.out; omega))
      obtain ⟨x, HX⟩ : ∃ x, Hid (x = row[k]'(by have := HL.out; omega)) := ⟨_, Lib.hid rfl⟩
      rw [← HX.out] at hc0
      clear hcx
      by_cases hx1 : x < 1
      · go_wp2_with fail
        go_ret2
        exact .inl ⟨rfl, K2.out⟩
      · have F0 : ∀ w', SB wr w' → w'.cell? ⟨m, 0, none⟩ = some (.int .u32 a) := fun w' h => h.cell K0.out q0
        have F1 : ∀ w', SB wr w' → w'.cell? ⟨m, 1, none⟩ = some (.slice (some ⟨b, off, none⟩) n c) := fun w' h => h.cell K0.out q1
        have F2 : ∀ w', SB wr w' → w'.cell? ⟨b, off + k, none⟩ = some (.int .i64 x) := fun w' h => (Below.cell (p := ⟨b, off + k, none⟩) h (Nat.lt_of_lt_of_le hbl (Nat.le_trans (Nat.le_of_eq HM.out) K2.out.size))).trans hc0
        have hk5 : (k : Int) % 4294967296 = k := by omega
        have hd2 : (a + k) % 4294967296 = (u (a + k) : Int) := mod_u _
        have hu := u_lt (a + k)
        have hp : 3 + u (a + k) % 4 < (filled a 4 row nx k).length := by rw [filled_length]; omega
        obtain ⟨y, qp⟩ : ∃ y, wr.cell? ⟨m + 1, 3 + u (a + k) % 4, none⟩ = some (.int .i64 y) := ⟨(filled a 4 row nx k)[3 + u (a + k) % 4]'hp, (K1.out.cell _).trans (by simp only [List.getElem?_toArray]; exact ints_at_ _ _ hp)⟩
        have fp := K1.out.frozen (3 + u (a + k) % 4)
        have KN := Lib.hid (show Blk (wr.setCell ⟨m + 1, 3 + u (a + k) % 4, none⟩ (.int .i64 x)).drew (m + 1) 2 (ints (filled a 4 row nx (k + 1))).toArray by
          have h := (K1.out.set_ (3 + u (a + k) % 4) (.int .i64 x)).drew
          rw [ints_set] at h
          have hg : row.getD k 0 = x := by
            rw [HX.out]
            simp [List.getD, show k < row.length by have := HL.out; omega]
          show Blk _ _ _ (ints ((filled a 4 row nx k).set (3 + u (a + k) % 4) (row.getD k 0))).toArray
          rw [hg]
          exact h)
        have KM := Lib.hid (show Blk (wr.setCell ⟨m + 1, 3 + u (a + k) % 4, none⟩ (.int .i64 x)).drew m 37 #[.int .u32 a, .slice (some ⟨b, off, none⟩) n c, .int .i64 nx] from (K0.out.far (by simp) _).drew)
        have KB := Lib.hid (show Below m w (wr.setCell ⟨m + 1, 3 + u (a + k) % 4, none⟩ (.int .i64 x)).drew from (K2.out.setCell (by show m ≤ m + 1; omega) _).drew)
        clear hp
        go_wp2_with fail
        refine region_schE (SB wr) [] [0, 1, 2, 3, 4, 5, 6, 7, 8, 9, 10, 11, 12, 13, 14, 15] 16 (by kernel_rfl) (by kernel_rfl) (by kernel_rfl) (fun _ _ d _ _ h => by cases d <;> exact h) (Below.refl _ _).drew ?_
        (try simp only [Act.put, List.setIfInBounds_toArray, List.set_cons_zero, List.set_cons_succ]); refine schE_last ?_; simp only [pickOps, List.getElem?_toArray, List.getElem?_cons_zero, List.getElem?_cons_succ]; (repeat (first | go_big_quiet_skip | (go_big_quiet_want; first | (go_big_quiet_op; first | go_big_quiet_on | ((first | with_reducible refine ⟨_, fun _ _ => rfl, ?_⟩); go_big_quiet_on)) | (simp (contextual := true) [go_sem, F0, F1, F2]; with_reducible refine ⟨_, fun _ _ => rfl, ?_⟩; go_big_quiet_on)))); refine wpQuiet_nil ?_
        clear F0 F1 F2
        go_wp2_with fail
        refine ⟨⟨k + 1, by omega, by go_num, KN, KM, KB, Lib.hid (fun j hj h => ?_)⟩, by simp [intOf]; omega⟩
        by_cases hjk : j < k
        · exact K3.out j hj hjk
        · obtain rfl : j = k := by omega
          rw [← HX.out]
          omega
    · obtain rfl : k = n := by omega
      go_wp2_with fail
      go_ret2
      refine .inr ⟨m + 1, rfl, by rw [HL.out]; exact K1.out, by omega, K2.out, ?_⟩
      intro y hy
      obtain ⟨j, hj, rfl⟩ := List.mem_iff_getElem.1 hy
      exact K3.out j hj (by have := HL.out; omega)
theorem laid_go8 {a nx : Int} {A : Option Addr} {n c : Nat} {row : List Int} {w : World} (ha : 0 ≤ a ∧ a < 4294967296) (hl : row.length = n) (hn : n ≤ 8) (hx : ¬ nx < 0) (hr : Row w w.heap.size A (ints row)) :
    Calls Try.prog 17 #[.agg #[.int .u32 a, .slice A n c, .int .i64 nx], .int .i64 8] w fun e w' => LNo w e w' ∨ LYes w a 8 row nx e w' := by
  obtain ⟨hn5, hd⟩ : ((n : Int) % 4294967296 = n) ∧ (a + n) % 4294967296 = (u (a + n) : Int) := ⟨by omega, mod_u _⟩
  have HR := Lib.hid hr
  have HL := Lib.hid hl
  obtain ⟨m, HM⟩ : ∃ m, Hid (m = w.heap.size) := ⟨_, Lib.hid rfl⟩
  have hm1 : (w.alloc (.cells #[.int .u32 a, .slice A n c, .int .i64 nx] 37)).heap.size = m + 1 := by rw [World.size_alloc, HM.out]
  have HB0 := Lib.hid (show Blk ((w.alloc (.cells #[.int .u32 a, .slice A n c, .int .i64 nx] 37)).alloc (.cells #[.int .i64 a, .int .i64 (u (a + n)), .int .i64 nx, .int .i64 0, .int .i64 0, .int .i64 0, .int .i64 0, .int .i64 0, .int .i64 0, .int .i64 0, .int .i64 0] 2)) m 37 #[.int .u32 a, .slice A n c, .int .i64 nx] by rw [HM.out]; exact (Blk.new _ _ _).alloc _)
  have HB1 := Lib.hid (show Blk ((w.alloc (.cells #[.int .u32 a, .slice A n c, .int .i64 nx] 37)).alloc (.cells #[.int .i64 a, .int .i64 (u (a + n)), .int .i64 nx, .int .i64 0, .int .i64 0, .int .i64 0, .int .i64 0, .int .i64 0, .int .i64 0, .int .i64 0, .int .i64 0] 2)) (m + 1) 2 (ints (filled a 8 row nx 0)).toArray by
    rw [← hm1]
    have := Blk.new (w.alloc (.cells #[.int .u32 a, .slice A n c, .int .i64 nx] 37)) 2 #[.int .i64 a, .int .i64 (u (a + n)), .int .i64 nx, .int .i64 0, .int .i64 0, .int .i64 0, .int .i64 0, .int .i64 0, .int .i64 0, .int .i64 0, .int .i64 0]
    rw [← hl] at this ⊢
    exact this)
  have HB2 := Lib.hid (show Below m w ((w.alloc (.cells #[.int .u32 a, .slice A n c, .int .i64 nx] 37)).alloc (.cells #[.int .i64 a, .int .i64 (u (a + n)), .int .i64 nx, .int .i64 0, .int .i64 0, .int .i64 0, .int .i64 0, .int .i64 0, .int .i64 0, .int .i64 0, .int .i64 0] 2)) by
    rw [HM.out]
    exact ((Below.refl _ w).alloc (Nat.le_refl _) _).alloc (by simp) _)
  have hmk : ∀ w, (Instr.makeSlice 31 (.int .i64 11) (.int .i64 11)).run Try.prog w = .ok (.slice (some ⟨w.heap.size, 0, none⟩) 11 11) (w.alloc (.cells #[.int .i64 0, .int .i64 0, .int .i64 0, .int .i64 0, .int .i64 0, .int .i64 0, .int .i64 0, .int .i64 0, .int .i64 0, .int .i64 0, .int .i64 0] 2)) :=
    mk64 11 (by omega)
  have hn' : ¬ (n : Int) > 8 := by omega
  rw [← HM.out] at HR
  unfold LNo LYes
  rw [← HM.out]
  clear hr hl hm1
  go_enter Try.func17, Try.ntmps17
  go_wp2_with fail
  rw [← HM.out]
  generalize ((w.alloc (.cells #[.int .u32 a, .slice A n c, .int .i64 nx] 37)).alloc (.cells #[.int .i64 a, .int .i64 (u (a + n)), .int .i64 nx, .int .i64 0, .int .i64 0, .int .i64 0, .int .i64 0, .int .i64 0, .int .i64 0, .int .i64 0, .int .i64 0] 2)) = W at HB0 HB1 HB2 ⊢
  clear hmk
  go_loopw [7] (fun vi wr => ∃ k : Nat, k ≤ n ∧ vi = .int .i64 k ∧ Hid (Blk wr (m + 1) 2 (ints (filled a 8 row nx k)).toArray) ∧ Hid (Blk wr m 37 #[.int .u32 a, .slice A n c, .int .i64 nx]) ∧ Hid (Below m w wr) ∧ Hid (∀ j (h : j < row.length), j < k → 1 ≤ row[j])) (fun vi _ => n - (intOf vi).toNat)
  case atStart => exact ⟨0, by omega, rfl, HB1, HB0, HB2, Lib.hid (fun j _ h => absurd h (by omega))⟩
  case round =>
    rcases hrel with ⟨k, hk, rfl, K1, K0, K2, K3⟩
    have q0 := (K0.out.cell 0)
    have q1 := (K0.out.cell 1)
    simp at q0 q1
    by_cases hlt : k < n
    · obtain ⟨b, off, rfl, hbl, hcx⟩ := (HR.out.below K2.out).at_ (k := k) (by have := HL.out; simp [ints]; omega)
      have hc0 := hcx k _ (ints_at_ row k (by have := HL.out; omega))
      obtain ⟨x, HX⟩ : ∃ x, Hid (x = row[k]'(by have := HL.out; omega)) := ⟨_, Lib.hid rfl⟩
      rw [← HX.out] at hc0
      clear hcx
      by_cases hx1 : x < 1
      · go_wp2_with fail
        go_ret2
        exact .inl ⟨rfl, K2.out⟩
      · have F0 : ∀ w', SB wr w' → w'.cell? ⟨m, 0, none⟩ = some (.int .u32 a) := fun w' h => h.cell K0.out q0
        have F1 : ∀ w', SB wr w' → w'.cell? ⟨m, 1, none⟩ = some (.slice (some ⟨b, off, none⟩) n c) := fun w' h => h.cell K0.out q1
        have F2 : ∀ w', SB wr w' → w'.cell? ⟨b, off + k, none⟩ = some (.int .i64 x) := fun w' h => (Below.cell (p := ⟨b, off + k, none⟩) h (Nat.lt_of_lt_of_le hbl (Nat.le_trans (Nat.le_of_eq HM.out) K2.out.size))).trans hc0
        have hk5 : (k : Int) % 4294967296 = k := by omega
        have hd2 : (a + k) % 4294967296 = (u (a + k) : Int) := mod_u _
        have hu := u_lt (a + k)
        have hp : 3 + u (a + k) % 8 < (filled a 8 row nx k).length := by rw [filled_length]; omega
        obtain ⟨y, qp⟩ : ∃ y, wr.cell? ⟨m + 1, 3 + u (a + k) % 8, none⟩ = some (.int .i64 y) := ⟨(filled a 8 row nx k)[3 + u (a + k) % 8]'hp, (K1.out.cell _).trans (by simp only [List.getElem?_toArray]; exact ints_at_ _ _ hp)⟩
        have fp := K1.out.frozen (3 + u (a + k) % 8)
        have KN := Lib.hid (show Blk (wr.setCell ⟨m + 1, 3 + u (a + k) % 8, none⟩ (.int .i64 x)).drew (m + 1) 2 (ints (filled a 8 row nx (k + 1))).toArray by
          have h := (K1.out.set_ (3 + u (a + k) % 8) (.int .i64 x)).drew
          rw [ints_set] at h
          have hg : row.getD k 0 = x := by
            rw [HX.out]
            simp [List.getD, show k < row.length by have := HL.out; omega]
          show Blk _ _ _ (ints ((filled a 8 row nx k).set (3 + u (a + k) % 8) (row.getD k 0))).toArray
          rw [hg]
          exact h)
        have KM := Lib.hid (show Blk (wr.setCell ⟨m + 1, 3 + u (a + k) % 8, none⟩ (.int .i64 x)).drew m 37 #[.int .u32 a, .slice (some ⟨b, off, none⟩) n c, .int .i64 nx] from (K0.out.far (by simp) _).drew)
        have KB := Lib.hid (show Below m w (wr.setCell ⟨m + 1, 3 + u (a + k) % 8, none⟩ (.int .i64 x)).drew from (K2.out.setCell (by show m ≤ m + 1; omega) _).drew)
        clear hp
        go_wp2_with fail
        refine region_schE (SB wr) [] [0, 1, 2, 3, 4, 5, 6, 7, 8, 9, 10, 11, 12, 13, 14, 15] 16 (by kernel_rfl) (by kernel_rfl) (by kernel_rfl) (fun _ _ d _ _ h => by cases d <;> exact h) (Below.refl _ _).drew ?_
        (try simp only [Act.put, List.setIfInBounds_toArray, List.set_cons_zero, List.set_cons_succ]); refine schE_last ?_; simp only [pickOps, List.getElem?_toArray, List.getElem?_cons_zero, List.getElem?_cons_succ]; (repeat (first | go_big_quiet_skip | (go_big_quiet_want; first | (go_big_quiet_op; first | go_big_quiet_on | ((first | with_reducible refine ⟨_, fun _ _ => rfl, ?_⟩); go_big_quiet_on)) | (simp (contextual := true) [go_sem, F0, F1, F2]; with_reducible refine ⟨_, fun _ _ => rfl, ?_⟩; go_big_quiet_on)))); refine wpQuiet_nil ?_
        clear F0 F1 F2
        go_wp2_with fail
        refine ⟨⟨k + 1, by omega, by go_num, KN, KM, KB, Lib.hid (fun j hj h => ?_)⟩, by simp [intOf]; omega⟩
        by_cases hjk : j < k
        · exact K3.out j hj hjk
        · obtain rfl : j = k := by omega
          rw [← HX.out]
          omega
    · obtain rfl : k = n := by omega
      go_wp2_with fail
      go_ret2
      refine .inr ⟨m + 1, rfl, by rw [HL.out]; exact K1.out, by omega, K2.out, ?_⟩
      intro y hy
      obtain ⟨j, hj, rfl⟩ := List.mem_iff_getElem.1 hy
      exact K3.out j hj (by have := HL.out; omega)
/-- Laid: no, or the cells. -/
theorem laid_any {a nx size : Int} {A : Option Addr} {n c : Nat} {row : List Int} {w : World} (ha : 0 ≤ a ∧ a < 4294967296) (hl : row.length = n) (hr : Row w w.heap.size A (ints row)) :
    Calls Try.prog 17 #[.agg #[.int .u32 a, .slice A n c, .int .i64 nx], .int .i64 size] w fun e w' => LNo w e w' ∨ ∃ sz : Nat, size = sz ∧ (sz = 2 ∨ sz = 4 ∨ sz = 8) ∧ row.length ≤ sz ∧ 0 ≤ nx ∧ LYes w a sz row nx e w' := by
  by_cases hs : size = 2 ∨ size = 4 ∨ size = 8
  · obtain ⟨sz, hsz, he⟩ : ∃ sz : Nat, size = sz ∧ (sz = 2 ∨ sz = 4 ∨ sz = 8) := by
      rcases hs with h | h | h
      · exact ⟨2, h, by omega⟩
      · exact ⟨4, h, by omega⟩
      · exact ⟨8, h, by omega⟩
    subst hsz
    by_cases hn : sz < n
    · exact (laid_long he hn).mono fun _ _ h => .inl h
    · by_cases hx : nx < 0
      · exact (laid_neg he (by omega) hx).mono fun _ _ h => .inl h
      · have key : Calls Try.prog 17 #[.agg #[.int .u32 a, .slice A n c, .int .i64 nx], .int .i64 sz] w fun e w' => LNo w e w' ∨ LYes w a sz row nx e w' := by
          rcases he with rfl | rfl | rfl
          · exact laid_go2 ha hl (by omega) hx hr
          · exact laid_go4 ha hl (by omega) hx hr
          · exact laid_go8 ha hl (by omega) hx hr
        exact key.mono fun _ _ h => h.imp id fun h => ⟨sz, rfl, he, by omega, by omega, h⟩
  · exact (laid_size (by omega) (by omega) (by omega)).mono fun _ _ h => .inl h
end Go.Proofs.Ythnhjhlpimgkiaa

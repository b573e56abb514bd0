/-
  Contract of isa.All, and the law IsaNames as a contract. Condition: the table is laid.
-/
import Derived.Test.YthhmnipggienaaaDoorLaw06
import Derived.Test.YthhmnipggienaaaDoorOwn
namespace Go.Proofs.YthhmnipggienaaaDoor
open Go.RowKit
theorem Tryd.info3 : (Tryd.prog.info? 3).map (fun i => (i.zero, i.size, i.bytes)) = some (some (.int .i64 0), 1, 8) := by kernel_rfl
theorem ints_snoc (l : List Int) (x : Int) : ints (l ++ [x]) = ints l ++ [.int .i64 x] := by simp [ints]
/-- The first k ops. -/
def opsL (k : Nat) : List Int := (List.range k).map fun i : Nat => (i : Int)
theorem opsL_succ (k : Nat) : opsL (k + 1) = opsL k ++ [(k : Int)] := by simp [opsL, List.range_succ]
theorem opsL_len (k : Nat) : (opsL k).length = k := by simp [opsL]
def AllIs (w' : World) (e : Ending) : Prop := ∃ (A : Option Addr) (c : Nat), e = .returned (.slice A 24 c) ∧ Row w' w'.heap.size A (ints (opsL 24))
set_option maxRecDepth 100000 in
set_option maxHeartbeats 1000000 in
theorem all_any (w : World) : Calls Tryd.prog 22 #[] w fun e w' => AllIs w' e ∧ Below w.heap.size w w' := by
  obtain ⟨i0, hi, hz0, hz1, hz2⟩ := info_parts Tryd.info3
  have HI := Lib.hid hi
  have HZ0 := Lib.hid hz0
  have HZ1 := Lib.hid hz1
  have HZ2 := Lib.hid hz2
  clear hi hz0 hz1 hz2
  go_enter Tryd.func22, Tryd.ntmps22
  go_wp2_with fail
  go_loopw [0, 2] (fun vs vi wr => ∃ (k : Nat) (A : Option Addr) (c : Nat), k ≤ 24 ∧ vi = .int .i64 k ∧ vs = .slice A k c ∧ Below w.heap.size w wr ∧ Own wr w.heap.size 3 1 A k c (ints (opsL k))) (fun _ vi _ => 24 - (intOf vi).toNat)
  case atStart => exact ⟨0, none, 0, by omega, rfl, rfl, Below.refl _ _, Own.nil _ _ _ _⟩
  case round =>
    obtain ⟨k, A, c, hk, rfl, rfl, hb, ho⟩ := hrel
    have HO := Lib.hid ho
    clear ho
    by_cases hlt : k < 24
    · have c1 : Hid (k + 1 ≤ maxLen) := by unfold maxLen; show _ ≤ _; omega
      go_wp2_with (at_builtin; refine wpList_append_1 _ rfl (.tmp 5) (.tmp 7) 35 rfl w.heap.size 3 i0 (.int .i64 0) 1 8 Tryd.underlying35 HI.out HZ0.out HZ1.out HZ2.out rfl (by decide) _ _ _ _ rfl (HO.out.alloc _) ⟨wr.heap.size, 0, none⟩ 1 [.int .i64 k] rfl rfl (cell_one_new _ _ _) (by simp [Value.oneCell']) c1.out (by omega) (by have := hb.size; simp; omega) ?_; intro A' c' w1 hown1 hgrow1 hat1)
      refine ⟨⟨k + 1, A', c', by omega, by go_num, rfl, below_append hb HO.out (by omega) hb.size hgrow1, ?_⟩, by simp [intOf]; omega⟩
      rw [opsL_succ, ints_snoc]
      exact hown1
    · have hk24 : k = 24 := by omega
      have HK := Lib.hid hk24
      clear hk24
      go_wp2_with fail
      go_ret
      refine ⟨⟨A, c, ?_, ?_⟩, hb⟩
      · rw [HK.out]; rfl
      · have := HO.out.row
        rw [HK.out] at this
        exact this
/-- The last of the first k ops that has a name, and whether there is one. -/
def lastAt (nm : ByteArray) : Nat → Int
  | 0 => 0
  | k + 1 => if ((opName k).toList == nm.toList) = true then k else lastAt nm k
def hasB (nm : ByteArray) : Nat → Bool
  | 0 => false
  | k + 1 => if ((opName k).toList == nm.toList) = true then true else hasB nm k
theorem names_inj : ∀ i j : Fin 24, ((opName (i.val : Int)).toList == (opName (j.val : Int)).toList) = true → i = j := by decide +kernel
theorem last_none (nm : ByteArray) (k : Nat) (h : ∀ i : Nat, i < k → ((opName i).toList == nm.toList) = false) : lastAt nm k = 0 ∧ hasB nm k = false := by
  induction k with
  | zero => exact ⟨rfl, rfl⟩
  | succ k ih =>
    have hk := h k (by omega)
    have := ih (fun i hi => h i (by omega))
    simp [lastAt, hasB, hk, this]
theorem last_some (nm : ByteArray) (j k : Nat) (hj : j < 24) (hk : k ≤ 24) (hjk : j < k) (he : ((opName j).toList == nm.toList) = true) : lastAt nm k = j ∧ hasB nm k = true := by
  induction k with
  | zero => omega
  | succ k ih =>
    by_cases hm : ((opName k).toList == nm.toList) = true
    · have e : j = k := by
        have h1 : (opName j).toList = nm.toList := by simpa using he
        have h2 : (opName k).toList = nm.toList := by simpa using hm
        have := names_inj ⟨j, hj⟩ ⟨k, by omega⟩ (by simp [h1, h2])
        exact congrArg Fin.val this
      subst e
      simp [lastAt, hasB, hm]
    · have := ih (by omega) (by
        rcases Nat.lt_or_ge j k with h | h
        · exact h
        · have : j = k := by omega
          subst this; exact absurd he hm)
      rw [lastAt, hasB, if_neg hm, if_neg hm]
      exact this
theorem last_all (nm : ByteArray) : lastAt nm 24 = opAt nm ∧ hasB nm 24 = opIs nm := by
  cases hf : opFind nm with
  | none =>
    have h : ∀ i : Nat, i < 24 → ((opName i).toList == nm.toList) = false := by
      unfold opFind at hf
      rw [List.find?_range_eq_none] at hf
      intro i hi
      have := hf i hi
      simpa using this
    have := last_none nm 24 h
    simp [opAt, opIs, hf, this]
  | some j =>
    unfold opFind at hf
    have hf' := hf
    rw [List.find?_range_eq_some] at hf
    have := last_some nm j 24 (by simpa using hf.2.1) (by omega) (by simpa using hf.2.1) hf.1
    have hf2 : opFind nm = some j := hf'
    simp [opAt, opIs, hf2, this]
theorem names_cell (w : World) (k : Nat) (hk : k < 24) : (w.alloc (.cells namesArr 9)).cell? ⟨w.heap.size, k, none⟩ = some (.string (opName k)) := by
  rw [(Blk.new w 9 _).cell]
  have h : (tabT.map fun r => Value.string ⟨r.name.toArray⟩)[k]? = some (.string (opName k)) := by
    rw [List.getElem?_map, opRow_in k hk]; rfl
  simpa [namesArr] using h
theorem opName_out (op : Int) (h : isOpB op = false) : opName op = ⟨#[]⟩ := by
  have h' : op < 0 ∨ 24 ≤ op := by simp [isOpB] at h; omega
  simp [opName, opRow_out op h', noRow]
def NamesPost (w : World) (e : Ending) (w' : World) : Prop := e = .returned (.bool true) ∧ Below w.heap.size w w'
set_option maxRecDepth 100000 in
set_option maxHeartbeats 4000000 in
theorem names_law (op : Int) (nm : ByteArray) (w : World) (hT : Tab w) :
    Calls Tryd.prog 5 #[.int .i64 op, .string nm] w fun e w' => e = .returned (.bool true) ∧ Below w.heap.size w w' := by
  have H0 := Lib.hid hT
  clear hT
  go_enter Tryd.func5, Tryd.ntmps5
  go_wp2_with fail
  refine (ris_any _ _).mono ?_
  rintro e w1 ⟨rfl, hb1⟩
  have HB := Lib.hid hb1
  clear hb1
  by_cases hop : isOpB op = true
  · obtain ⟨k, rfl⟩ := Int.eq_ofNat_of_zero_le (show 0 ≤ op by simp [isOpB] at hop; omega)
    have hk : k < 24 := by simp [isOpB] at hop; omega
    have hnc := names_cell w1 k hk
    have HOP := Lib.hid hop
    rw [hop]
    clear hop
    go_wp2_with (go_at_call 21; refine (names_any _).mono ?_; rintro e w2 ⟨rfl, rfl⟩)
    have HB := Lib.hid (HB.out.alloc HB.out.size (.cells namesArr 9))
    clear hnc HOP
    go_loopw [6, 7, 8] (fun va vt vi wr => ∃ j : Nat, j ≤ 24 ∧ vi = .int .i64 j ∧ va = .int .i64 (lastAt nm j) ∧ vt = .bool (hasB nm j) ∧ Below w.heap.size w wr) (fun _ _ vi _ => 24 - (intOf vi).toNat)
    case atStart => exact ⟨0, by omega, rfl, rfl, rfl, HB.out⟩
    case round =>
      clear HB
      obtain ⟨j, hj, rfl, rfl, rfl, hb⟩ := hrel
      by_cases hlt : j < 24
      · have hnc := names_cell (wr.alloc (.cells namesArr 9)) j hlt
        rw [World.size_alloc] at hnc
        by_cases hm : ((opName j).toList == nm.toList) = true
        · have e1 : lastAt nm (j + 1) = j := by rw [lastAt, if_pos hm]
          have e2 : hasB nm (j + 1) = true := by rw [hasB, if_pos hm]
          have E1 := Lib.hid e1
          have E2 := Lib.hid e2
          clear e1 e2
          go_wp2_with (go_at_call 21; refine (names_any _).mono ?_; rintro e w2 ⟨rfl, rfl⟩)
          go_roundw
          case rel => exact ⟨j + 1, by omega, by go_num, by rw [E1.out], by rw [E2.out], (hb.alloc hb.size _).alloc (by have := hb.size; simp; omega) _⟩
          case measure => simp [intOf]; omega
        · have hm : ((opName j).toList == nm.toList) = false := by simpa using hm
          have e1 : lastAt nm (j + 1) = lastAt nm j := by rw [lastAt, hm, if_neg Bool.false_ne_true]
          have e2 : hasB nm (j + 1) = hasB nm j := by rw [hasB, hm, if_neg Bool.false_ne_true]
          have E1 := Lib.hid e1
          have E2 := Lib.hid e2
          clear e1 e2
          go_wp2_with (go_at_call 21; refine (names_any _).mono ?_; rintro e w2 ⟨rfl, rfl⟩)
          go_roundw
          case rel => exact ⟨j + 1, by omega, by go_num, by rw [E1.out], by rw [E2.out], (hb.alloc hb.size _).alloc (by have := hb.size; simp; omega) _⟩
          case measure => simp [intOf]; omega
      · have hj24 : j = 24 := by omega
        obtain ⟨e1, e2⟩ := last_all nm
        have f1 : lastAt nm j = opAt nm := by rw [hj24]; exact e1
        have f2 : hasB nm j = opIs nm := by rw [hj24]; exact e2
        rw [f1, f2]
        clear e1 e2 f1 f2 hj24
        have HB := Lib.hid hb
        clear hb
        go_wp2_with (first | (go_at_call 21; refine (names_any _).mono ?_; rintro e w2 ⟨rfl, rfl⟩; have HB := Lib.hid (HB.out.alloc HB.out.size (.cells namesArr 9))) | (go_at_call 18; refine (isaOp_any _ _ (H0.out.keep HB.out H0.out.pos)).mono ?_; rintro e w3 ⟨rfl, hb3⟩; have HB := Lib.hid (HB.out.trans (hb3.mono HB.out.size)); clear hb3) | (go_at_call 22; refine (all_any _).mono ?_; rintro e w4 ⟨⟨A, c, rfl, hrow⟩, hb4⟩; have HB := Lib.hid (HB.out.trans (hb4.mono HB.out.size)); have HR := Lib.hid hrow; clear hb4 hrow))
        go_loopw [12] (fun vi wr => ∃ i : Nat, i ≤ 24 ∧ vi = .int .i64 i ∧ w4 = wr) (fun vi _ => 24 - (intOf vi).toNat)
        case atStart => exact ⟨0, by omega, rfl, rfl⟩
        case round =>
          obtain ⟨i, hi, rfl, rfl⟩ := hrel
          by_cases hlt2 : i < 24
          · obtain ⟨b, off, rfl, hbl, hcx⟩ := HR.out.at_ (k := i) (by simp [ints, opsL_len]; omega)
            have hc0 := hcx i (.int .i64 (i : Int)) (by simp [ints, opsL, hlt2])
            clear hcx hbl
            go_wp2_with fail
            go_roundw
            case rel => exact ⟨i + 1, by omega, by go_num, by trivial⟩
            case measure => simp [intOf]; omega
          · go_wp2_with (first | (go_at_call 19; refine (isaName_any _ _ (H0.out.keep HB.out H0.out.pos)).mono ?_; rintro e w5 ⟨rfl, hb5⟩; have HB := Lib.hid (HB.out.trans (hb5.mono HB.out.size)); clear hb5) | (go_at_call 17; refine (alive06 _ (H0.out.keep HB.out H0.out.pos)).mono ?_; rintro e w6 ⟨rfl, hb6⟩; have HB := Lib.hid (HB.out.trans (hb6.mono HB.out.size)); clear hb6))
            go_ret
            exact ⟨rfl, HB.out⟩
  · have hop : isOpB op = false := by simpa using hop
    have hno := opName_out op hop
    rw [hop]
    clear hop
    go_wp2_with fail
    go_loopw [6, 7, 8] (fun va vt vi wr => ∃ j : Nat, j ≤ 24 ∧ vi = .int .i64 j ∧ va = .int .i64 (lastAt nm j) ∧ vt = .bool (hasB nm j) ∧ Below w.heap.size w wr) (fun _ _ vi _ => 24 - (intOf vi).toNat)
    case atStart => exact ⟨0, by omega, rfl, rfl, rfl, HB.out⟩
    case round =>
      clear HB
      obtain ⟨j, hj, rfl, rfl, rfl, hb⟩ := hrel
      by_cases hlt : j < 24
      · have hnc := names_cell (wr.alloc (.cells namesArr 9)) j hlt
        rw [World.size_alloc] at hnc
        by_cases hm : ((opName j).toList == nm.toList) = true
        · have e1 : lastAt nm (j + 1) = j := by rw [lastAt, if_pos hm]
          have e2 : hasB nm (j + 1) = true := by rw [hasB, if_pos hm]
          have E1 := Lib.hid e1
          have E2 := Lib.hid e2
          clear e1 e2
          go_wp2_with (go_at_call 21; refine (names_any _).mono ?_; rintro e w2 ⟨rfl, rfl⟩)
          go_roundw
          case rel => exact ⟨j + 1, by omega, by go_num, by rw [E1.out], by rw [E2.out], (hb.alloc hb.size _).alloc (by have := hb.size; simp; omega) _⟩
          case measure => simp [intOf]; omega
        · have hm : ((opName j).toList == nm.toList) = false := by simpa using hm
          have e1 : lastAt nm (j + 1) = lastAt nm j := by rw [lastAt, hm, if_neg Bool.false_ne_true]
          have e2 : hasB nm (j + 1) = hasB nm j := by rw [hasB, hm, if_neg Bool.false_ne_true]
          have E1 := Lib.hid e1
          have E2 := Lib.hid e2
          clear e1 e2
          go_wp2_with (go_at_call 21; refine (names_any _).mono ?_; rintro e w2 ⟨rfl, rfl⟩)
          go_roundw
          case rel => exact ⟨j + 1, by omega, by go_num, by rw [E1.out], by rw [E2.out], (hb.alloc hb.size _).alloc (by have := hb.size; simp; omega) _⟩
          case measure => simp [intOf]; omega
      · have hj24 : j = 24 := by omega
        obtain ⟨e1, e2⟩ := last_all nm
        have f1 : lastAt nm j = opAt nm := by rw [hj24]; exact e1
        have f2 : hasB nm j = opIs nm := by rw [hj24]; exact e2
        rw [f1, f2]
        clear e1 e2 f1 f2 hj24
        have HB := Lib.hid hb
        clear hb
        go_wp2_with (first | (go_at_call 21; refine (names_any _).mono ?_; rintro e w2 ⟨rfl, rfl⟩; have HB := Lib.hid (HB.out.alloc HB.out.size (.cells namesArr 9))) | (go_at_call 18; refine (isaOp_any _ _ (H0.out.keep HB.out H0.out.pos)).mono ?_; rintro e w3 ⟨rfl, hb3⟩; have HB := Lib.hid (HB.out.trans (hb3.mono HB.out.size)); clear hb3) | (go_at_call 22; refine (all_any _).mono ?_; rintro e w4 ⟨⟨A, c, rfl, hrow⟩, hb4⟩; have HB := Lib.hid (HB.out.trans (hb4.mono HB.out.size)); have HR := Lib.hid hrow; clear hb4 hrow))
        go_loopw [12] (fun vi wr => ∃ i : Nat, i ≤ 24 ∧ vi = .int .i64 i ∧ w4 = wr) (fun vi _ => 24 - (intOf vi).toNat)
        case atStart => exact ⟨0, by omega, rfl, rfl⟩
        case round =>
          obtain ⟨i, hi, rfl, rfl⟩ := hrel
          by_cases hlt2 : i < 24
          · obtain ⟨b, off, rfl, hbl, hcx⟩ := HR.out.at_ (k := i) (by simp [ints, opsL_len]; omega)
            have hc0 := hcx i (.int .i64 (i : Int)) (by simp [ints, opsL, hlt2])
            clear hcx hbl
            go_wp2_with fail
            go_roundw
            case rel => exact ⟨i + 1, by omega, by go_num, by trivial⟩
            case measure => simp [intOf]; omega
          · go_wp2_with (first | (go_at_call 19; refine (isaName_any _ _ (H0.out.keep HB.out H0.out.pos)).mono ?_; rintro e w5 ⟨rfl, hb5⟩; have HB := Lib.hid (HB.out.trans (hb5.mono HB.out.size)); clear hb5) | (go_at_call 17; refine (alive06 _ (H0.out.keep HB.out H0.out.pos)).mono ?_; rintro e w6 ⟨rfl, hb6⟩; have HB := Lib.hid (HB.out.trans (hb6.mono HB.out.size)); clear hb6))
            go_ret
            exact ⟨rfl, HB.out⟩
end Go.Proofs.YthhmnipggienaaaDoor

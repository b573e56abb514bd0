/-
  Chapter 14: loadHead, loadTail, cell; what an access leaves of a task's memory.
-/
import Derived.Test.YthnhjhlpimgkiaaTsk14
import Derived.Test.YthnhjhlpimgkiaaBits
namespace Go.Proofs.Ythnhjhlpimgkiaa
open Go.RowKit
theorem M14.load {w w1 : World} {gt gr gc gl kc size cnt : Nat} {ex : List Value} {xs ys : List Int} {T : Tk} (M : M14 w gt gr gc gl kc ex size xs cnt T) (hc : CellsIs w1 gc gl kc ex ys (cnt + 1)) (hm : Mv [gc, gl] w w1) (hl : ys.length = xs.length) (hb : cnt < 899999) :
    M14 w1 gt gr gc gl kc ex size ys (cnt + 1) T :=
  ⟨hc, hm.blk M.ring (by simp [M.n2]), hm.blk M.task (by simp [M.n1]), M.n1, M.n2, by rw [hl]; exact M.fits, by omega, M.ok⟩
theorem M14.setT {w : World} {gt gr gc gl kc size cnt : Nat} {ex : List Value} {xs : List Int} {T T' : Tk} (M : M14 w gt gr gc gl kc ex size xs cnt T) (i : Nat) (v : Value) (h : (T.cells gr).setIfInBounds i v = T'.cells gr) (hs : T'.Ok) :
    M14 (w.setCell ⟨gt, i, none⟩ v) gt gr gc gl kc ex size xs cnt T' := by
  refine ⟨⟨M.cells.head.far (fun e => M.n1.2.1 e.symm) _, M.cells.row.far (fun e => M.n1.2.2 e.symm) _, M.cells.ne, M.cells.small, M.cells.size⟩, M.ring.far (fun e => M.n1.1 e.symm) _, ?_, M.n1, M.n2, M.fits, M.few, hs⟩
  rw [← h]
  exact M.task.set_ i v
theorem M14.step {w w' : World} {gt gr gc gl kc size cnt : Nat} {ex : List Value} {xs : List Int} {T : Tk} (M : M14 w gt gr gc gl kc ex size xs cnt T) (hb : Below w.heap.size w w') : M14 w' gt gr gc gl kc ex size xs cnt T :=
  ⟨M.cells.below hb, M.ring.below hb M.ring.lt, M.task.below hb M.task.lt, M.n1, M.n2, M.fits, M.few, M.ok⟩
/-- A number that goes round. -/
def u (x : Int) : Nat := (x % 4294967296).toNat
theorem wrap_u (x : Int) : IntKind.u32.wrap x = (u x : Int) := by
  have : IntKind.u32.wrap x = x % 4294967296 := by simp [IntKind.wrap, IntKind.bits, IntKind.signed]
  rw [this]
  unfold u
  omega
theorem mod_u (x : Int) : x % 4294967296 = (u x : Int) := by unfold u; omega
theorem u_lt (x : Int) : u x < 4294967296 := by unfold u; omega
theorem u_of (n : Nat) (h : n < 4294967296) : u n = n := by unfold u; omega
theorem lhead_any {w : World} {gt gr gc gl kc size cnt : Nat} {ex : List Value} {xs : List Int} {T : Tk} (M : M14 w gt gr gc gl kc ex size xs cnt T) (hb : cnt < 899999) (h0 : 0 < xs.length) :
    Calls Try.prog 41 #[.pointer (some ⟨gt, 0, none⟩)] w fun e w' => e = .returned (.tuple #[]) ∧ M14 w' gt gr gc gl kc ex size xs (cnt + 1) { T with head := u xs[0] } ∧ Mv [gc, gl, gt] w w' := by
  have HL := Lib.hid (load_any M.cells 0 h0 (by omega))
  have HM := Lib.hid M
  obtain ⟨q0, -⟩ := ten_ M.task
  have hr0 : w.cell? ⟨gr, 0, none⟩ = some (.pointer (some ⟨gc, 0, none⟩)) := (M.ring.cell 0).trans rfl
  clear M
  go_enter Try.func41, Try.ntmps41
  go_wp2_with (go_at_call 40; refine HL.out.mono ?_; rintro e w1 ⟨rfl, hC, hV⟩; have HM1 := Lib.hid (HM.out.load hC (hV.mono (by simp)) rfl hb); have HV := Lib.hid hV; obtain ⟨-, -, -, -, k4, -⟩ := ten_ HM1.out.task; have f4 := HM1.out.task.frozen 4; clear hC hV)
  go_end0
  exact ⟨rfl, HM1.out.setT 4 _ (by rw [mod_u]; rfl) ⟨HM1.out.ok.1, u_lt _, HM1.out.ok.2.2⟩, (HV.out.mono (by simp)).set _ _ (by simp)⟩
theorem ltail_any {w : World} {gt gr gc gl kc size cnt : Nat} {ex : List Value} {xs : List Int} {T : Tk} (M : M14 w gt gr gc gl kc ex size xs cnt T) (hb : cnt < 899999) (h0 : 1 < xs.length) :
    Calls Try.prog 54 #[.pointer (some ⟨gt, 0, none⟩)] w fun e w' => e = .returned (.tuple #[]) ∧ M14 w' gt gr gc gl kc ex size xs (cnt + 1) { T with tail := u xs[1] } ∧ Mv [gc, gl, gt] w w' := by
  have HL := Lib.hid (load_any M.cells 1 h0 (by omega))
  have HM := Lib.hid M
  obtain ⟨q0, -⟩ := ten_ M.task
  have hr0 : w.cell? ⟨gr, 0, none⟩ = some (.pointer (some ⟨gc, 0, none⟩)) := (M.ring.cell 0).trans rfl
  clear M
  go_enter Try.func54, Try.ntmps54
  go_wp2_with (go_at_call 40; refine HL.out.mono ?_; rintro e w1 ⟨rfl, hC, hV⟩; have HM1 := Lib.hid (HM.out.load hC (hV.mono (by simp)) rfl hb); have HV := Lib.hid hV; obtain ⟨-, -, -, -, -, k4, -⟩ := ten_ HM1.out.task; have f4 := HM1.out.task.frozen 5; clear hC hV)
  go_end0
  exact ⟨rfl, HM1.out.setT 5 _ (by rw [mod_u]; rfl) ⟨HM1.out.ok.1, HM1.out.ok.2.1, u_lt _, HM1.out.ok.2.2.2⟩, (HV.out.mono (by simp)).set _ _ (by simp)⟩
theorem and_mask (n size : Nat) (hn : n < 4294967296) (hs : size = 2 ∨ size = 4 ∨ size = 8) : bits .and .i64 (n : Int) ((size : Int) - 1) = ((n % size : Nat) : Int) := by
  have k : ∀ m : Nat, m < 16 → bits .and .i64 (n : Int) (m : Int) = ((n &&& m : Nat) : Int) := by
    intro m hm
    have e : bits .and .i64 (n : Int) (m : Int) = (BitVec.ofInt 64 n &&& BitVec.ofInt 64 m).toInt := wrap_toNat _
    rw [e, BitVec.ofInt_natCast, BitVec.ofInt_natCast, BitVec.toInt_eq_toNat_cond, BitVec.toNat_and, BitVec.toNat_ofNat, BitVec.toNat_ofNat, Nat.mod_eq_of_lt (by omega), Nat.mod_eq_of_lt (by omega)]
    have := Nat.and_le_right (n := n) (m := m)
    rw [if_pos (by omega)]
  rcases hs with rfl | rfl | rfl
  · rw [show ((2 : Nat) : Int) - 1 = ((1 : Nat) : Int) from rfl, k 1 (by omega)]
    exact congrArg _ (Nat.and_two_pow_sub_one_eq_mod n 1)
  · rw [show ((4 : Nat) : Int) - 1 = ((3 : Nat) : Int) from rfl, k 3 (by omega)]
    exact congrArg _ (Nat.and_two_pow_sub_one_eq_mod n 2)
  · rw [show ((8 : Nat) : Int) - 1 = ((7 : Nat) : Int) from rfl, k 7 (by omega)]
    exact congrArg _ (Nat.and_two_pow_sub_one_eq_mod n 3)
theorem mcell_any {w : World} {gr : Nat} {c : Value} {size : Nat} (h : Blk w gr 59 #[c, .int .i64 size]) (n : Nat) (hn : n < 4294967296) (hs : size = 2 ∨ size = 4 ∨ size = 8) :
    Calls Try.prog 62 #[.pointer (some ⟨gr, 0, none⟩), .int .u32 n] w fun e w' => e = .returned (.int .i64 ((3 + n % size : Nat) : Int)) ∧ w = w' := by
  have q1 : w.cell? ⟨gr, 1, none⟩ = some (.int .i64 size) := (h.cell 1).trans rfl
  have hm := and_mask n size hn hs
  have hz : size ≤ 8 := by omega
  have hz0 : 0 < size := by omega
  have hlt : n % size < 8 := Nat.lt_of_lt_of_le (Nat.mod_lt n hz0) hz
  obtain ⟨k, HK⟩ : ∃ k, Hid (k = n % size) := ⟨_, Lib.hid rfl⟩
  rw [← HK.out] at hm hlt ⊢
  clear h hs
  go_enter Try.func62, Try.ntmps62
  go_wp2
  go_ret
  exact ⟨by go_num, rfl⟩
end Go.Proofs.Ythnhjhlpimgkiaa

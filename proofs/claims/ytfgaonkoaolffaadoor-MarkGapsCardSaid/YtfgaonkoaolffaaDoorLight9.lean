/-
  Chapter 9: Light, alive, and the law ValidChecks. Conditions: the table is laid, the program lies in memory.
-/
import Derived.Test.YtfgaonkoaolffaaDoorCheck9
import Derived.Test.YtfgaonkoaolffaaDoorBlk
namespace Go.Proofs.YtfgaonkoaolffaaDoor
open Go.RowKit
def lightF (f : Fn) : Bool := decide (f.code.length ≤ 70) && decide (f.safe.length ≤ 70)
/-- Is a program light? -/
def lightP (fs : List Fn) : Bool := decide (fs.length ≤ 20) && fs.all lightF
theorem lightP_no {fs : List Fn} {k : Nat} (hk : k < fs.length) (h : lightF fs[k] = false) : lightP fs = false := by
  have : fs.all lightF = false := by
    rw [List.all_eq_false]
    exact ⟨fs[k], List.getElem_mem hk, by simp [h]⟩
  simp [lightP, this]
theorem lightP_yes {fs : List Fn} (h20 : fs.length ≤ 20) (h : ∀ i (hi : i < fs.length), lightF fs[i] = true) : lightP fs = true := by
  have : fs.all lightF = true := by
    rw [List.all_eq_true]
    intro x hx
    obtain ⟨i, hi, rfl⟩ := List.getElem_of_mem hx
    exact h i hi
  simp [lightP, this, h20]
set_option maxHeartbeats 2000000 in
theorem light_any (A : Option Addr) (c : Nat) (fs : List Fn) (w : World) (hm : fs.length ≤ maxLen) (hf : FnsOk w w.heap.size A fs) :
    Calls Tryd.prog 5 #[.agg #[.slice A fs.length c]] w fun e w' => e = .returned (.bool (lightP fs)) ∧ Below w.heap.size w w' := by
  generalize hn : fs.length = n at *
  unfold maxLen at hm
  have HF := Lib.hid hf
  have HN := Lib.hid hn
  have hB : Below w.heap.size w (w.alloc (.cells #[.slice A n c] 24)) := (Below.refl _ _).alloc (Nat.le_refl _) _
  clear hf hn
  by_cases h20 : 20 < n
  · have e : lightP fs = false := by simp [lightP]; intro h; have := HN.out; omega
    rw [e]; clear e
    have h20' : decide ((20 : Int) < n) = true := by simp; omega
    go_enter Tryd.func5, Tryd.ntmps5
    go_wp2_with fail
    go_ret
    exact ⟨rfl, hB⟩
  have h20' : decide ((20 : Int) < n) = false := by simp; omega
  have H20 := Lib.hid (show fs.length ≤ 20 by have := HN.out; omega)
  clear h20
  have HB := Lib.hid hB
  clear hB
  go_enter Tryd.func5, Tryd.ntmps5
  go_wp2_with fail
  have HF2 := Lib.hid (HF.out.step HB.out)
  have hp0 : (w.alloc (.cells #[.slice A n c] 24)).cell? ⟨w.heap.size, 0, none⟩ = some (.slice A n c) := (Blk.new w 24 _).cell 0
  clear HF
  generalize (w.alloc (.cells #[.slice A n c] 24)) = W at *
  go_loop [3] (fun vi => ∃ k : Nat, k ≤ n ∧ vi = .int .i64 k ∧ (∀ i (h : i < fs.length), i < k → lightF fs[i] = true)) (fun vi => n - (intOf vi).toNat)
  case atStart => exact ⟨0, by omega, rfl, fun i _ hi => by omega⟩
  case round =>
    obtain ⟨k, hk, rfl, hno⟩ := hrel
    have HNO := Lib.hid hno
    clear hno
    by_cases hlt : k < n
    · have hkc : k < fs.length := by rw [HN.out]; exact hlt
      obtain ⟨b, off, a, eA, hbb, c0, c1, hfn⟩ := HF2.out.at_ k hkc
      subst eA
      have h1 := hfn.1
      have h2 := hfn.2.1
      have hl : lightF fs[k] = (decide (a.n ≤ 70) && decide (a.m ≤ 70)) := by rw [h1, h2]; rfl
      have HL := Lib.hid hl
      clear hl hfn h1 h2
      obtain ⟨C, fn, fc, S, fm, fd⟩ := a
      simp only at c0 c1 HL
      by_cases hx : 70 < fn
      · have e := lightP_no hkc (by rw [HL.out]; simp; omega)
        have E := Lib.hid e
        have hx' : decide ((70 : Int) < fn) = true := by simp; omega
        clear e hx
        go_wp2_with fail
        go_ret
        exact ⟨by rw [E.out]; rfl, HB.out⟩
      · have hx' : decide ((70 : Int) < fn) = false := by simp; omega
        by_cases hy : 70 < fm
        · have e := lightP_no hkc (by rw [HL.out]; simp; omega)
          have E := Lib.hid e
          have hy' : decide ((70 : Int) < fm) = true := by simp; omega
          clear e hx hy
          go_wp2_with fail
          go_ret
          exact ⟨by rw [E.out]; rfl, HB.out⟩
        · have hy' : decide ((70 : Int) < fm) = false := by simp; omega
          have e : lightF fs[k] = true := by rw [HL.out]; simp; omega
          have E := Lib.hid e
          clear e hx hy
          go_wp2_with fail
          go_round
          case rel =>
            refine ⟨k + 1, by omega, by go_num, fun i hi hik => ?_⟩
            by_cases hik' : i < k
            · exact HNO.out i hi hik'
            · obtain rfl : i = k := by omega
              exact E.out
          case measure => simp [intOf]; omega
    · have e := lightP_yes H20.out (fun i hi => HNO.out i hi (by have := HN.out; omega))
      have E := Lib.hid e
      clear e
      go_wp2_with fail
      go_ret
      exact ⟨by rw [E.out]; rfl, HB.out⟩
theorem row_of_blk {w : World} {g B : Nat} {t : TypeId} {cs : Array Value} (h : Blk w g t cs) (hg : g < B) : Row w B (some ⟨g, 0, none⟩) cs.toList :=
  .inr ⟨g, 0, rfl, hg, fun j u hu => by rw [Nat.zero_add, h.cell]; simpa using hu⟩
def yieldExit : List Ins := [⟨11, 0, 0, 0, 0⟩, ⟨14, 0, 0, 0, 0⟩]
theorem aliveFn_ok {w : World} {B g1 g2 : Nat} (x y : Bool) (h1 : Blk w g1 43 #[.int .i64 11, .int .i64 0, .int .i64 0, .int .i64 0, .int .i64 0, .int .i64 14, .int .i64 0, .int .i64 0, .int .i64 0, .int .i64 0]) (h2 : Blk w g2 4 #[.bool x, .bool y]) (b1 : g1 < B) (b2 : g2 < B) :
    FnOk w B ⟨some ⟨g1, 0, none⟩, 2, 2, some ⟨g2, 0, none⟩, 2, 2⟩ ⟨yieldExit, [x, y]⟩ :=
  ⟨rfl, rfl, row_of_blk h1 b1, row_of_blk h2 b2, by simp [maxLen], by simp [maxLen], by
    intro i hi
    simp only [yieldExit, List.mem_cons, List.not_mem_nil, or_false] at hi
    rcases hi with rfl | rfl <;> simp [InsOk, I64]⟩
theorem aliveFns_ok {w : World} {B g : Nat} {a : FnA} {f : Fn} (hf : FnOk w B a f) (h : Blk w g 39 #[.slice a.C a.n a.c, .slice a.S a.m a.d]) (b : g < B) : FnsOk w B (some ⟨g, 0, none⟩) [f] :=
  ⟨[a], rfl, fun i h1 h2 => by
    obtain rfl : i = 0 := by simp at h1; omega
    exact hf, row_of_blk h b⟩
theorem blk4 (w : World) (t1 t2 t3 t4 : TypeId) (c1 c2 c3 c4 : Array Value) (W : World) (hW : W = (((w.alloc (.cells c1 t1)).alloc (.cells c2 t2)).alloc (.cells c3 t3)).alloc (.cells c4 t4)) :
    Blk W w.heap.size t1 c1 ∧ Blk W (w.heap.size + 1) t2 c2 ∧ Blk W (w.heap.size + 1 + 1) t3 c3 ∧ Blk W (w.heap.size + 1 + 1 + 1) t4 c4 ∧ W.heap.size = w.heap.size + 4 ∧ Below w.heap.size w W := by
  subst hW
  have s1 : (w.alloc (.cells c1 t1)).heap.size = w.heap.size + 1 := by simp
  have s2 : ((w.alloc (.cells c1 t1)).alloc (.cells c2 t2)).heap.size = w.heap.size + 1 + 1 := by simp
  have s3 : (((w.alloc (.cells c1 t1)).alloc (.cells c2 t2)).alloc (.cells c3 t3)).heap.size = w.heap.size + 1 + 1 + 1 := by simp
  have b2 := Blk.new (w.alloc (.cells c1 t1)) t2 c2
  have b3 := Blk.new ((w.alloc (.cells c1 t1)).alloc (.cells c2 t2)) t3 c3
  have b4 := Blk.new (((w.alloc (.cells c1 t1)).alloc (.cells c2 t2)).alloc (.cells c3 t3)) t4 c4
  rw [s1] at b2
  rw [s2] at b3
  rw [s3] at b4
  exact ⟨(((Blk.new w t1 c1).alloc _).alloc _).alloc _, (b2.alloc _).alloc _, b3.alloc _, b4, by simp, ((((Below.refl _ _).alloc (Nat.le_refl _) _).alloc (by simp) _).alloc (by simp; omega) _).alloc (by simp; omega) _⟩
end Go.Proofs.YtfgaonkoaolffaaDoor

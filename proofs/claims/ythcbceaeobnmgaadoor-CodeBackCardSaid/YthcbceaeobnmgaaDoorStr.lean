/-
  Bytes as strings: what a slice of bytes is as a string. No function of the program in sight.
-/
import Derived.Test.YthcbceaeobnmgaaDoorMem
import Derived.Laws.BytesArg
namespace Go.Proofs.YthcbceaeobnmgaaDoor
open Go.RowKit
def byteVals (l : List Nat) : List Value := l.map fun x : Nat => .int .u8 x
theorem byteVals_at (l : List Nat) (k : Nat) (h : k < l.length) : (byteVals l)[k]? = some (.int .u8 (l[k] : Nat)) := by simp [byteVals, h]
/-- The string of some bytes. -/
def str (l : List Nat) : ByteArray := strOfNums (l.map fun x : Nat => (x : Int))
theorem str_toList (l : List Nat) : (str l).toList = l.map fun x => UInt8.ofNat x := by
  rw [ByteArray.toList_eq]
  unfold str
  rw [strOfNums_data, List.map_map]
  rfl
theorem ofNat_back {l : List Nat} (hl : ∀ x ∈ l, x < 256) : (l.map fun x => UInt8.ofNat x).map UInt8.toNat = l := by
  rw [List.map_map]
  conv => rhs; rw [← List.map_id l]
  apply List.map_congr_left
  intro x hx
  have := hl x hx
  simp
  omega
theorem bytesStr_eq {l m : List Nat} (hl : ∀ x ∈ l, x < 256) (hm : ∀ x ∈ m, x < 256) : ((str l).toList == (str m).toList) = decide (l = m) := by
  rw [str_toList, str_toList]
  by_cases h : l = m
  · subst h; simp
  · rw [decide_eq_false h]
    rw [beq_eq_false_iff_ne]
    intro e
    have e2 := congrArg (List.map UInt8.toNat) e
    rw [ofNat_back hl, ofNat_back hm] at e2
    exact h e2
theorem conv_row {P : Program} {w : World} {B : Nat} {A : Option Addr} {n c : Nat} {l : List Nat} (src dst e : TypeId) (hs : P.underlying src = some (.slice e)) (he : P.underlying e = some (.int .u8)) (hd : P.underlying dst = some .string)
    (hl : l.length = n) (hr : Row w B A (byteVals l)) : (convert src dst (.slice A n c)).run P w = .ok (.string (str l)) w := by
  rcases hr with h | ⟨b, off, rfl, _, hc⟩
  · have h0 : l = [] := by simpa [byteVals] using h
    subst h0
    have hn : n = 0 := by simpa using hl.symm
    subst hn
    cases A with
    | none =>
      rw [run_convert_bytes_nil w src e hs he 0 c dst hd]
      rfl
    | some a =>
      rw [run_convert_bytes_string w src dst e _ 0 c hs he hd, run_bytesToString w a 0 c [] (by simpa using run_loadCells_list (P := P) w a [] (fun j v hj => by simp at hj))]
      rfl
  · refine run_convert_bytes_arg w src e hs he b off n c (l.map fun x : Nat => (x : Int)) (by simpa using hl) (fun i hi => ?_) dst hd
    have hil : i < l.length := by omega
    rw [hc i _ (byteVals_at l i hil)]
    simp [hil]
end Go.Proofs.YthcbceaeobnmgaaDoor

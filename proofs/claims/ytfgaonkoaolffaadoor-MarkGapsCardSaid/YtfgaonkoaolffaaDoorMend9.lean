/-
  Chapter 9: Mend. Conditions: the table is laid, the program lies in memory.
-/
import Derived.Test.YtfgaonkoaolffaaDoorClone9
import Derived.Test.YtfgaonkoaolffaaDoorCopy
namespace Go.Proofs.YtfgaonkoaolffaaDoor
open Go.RowKit
/-- Which places of a mended function are safe. -/
def waitsAt (f : Fn) (k : Nat) : Bool := opWaits (f.code.getD k noIns).op || (decide (0 < k) && opWaits (f.code.getD (k - 1) noIns).op)
def mendAt (f : Fn) (k : Nat) : Bool := safeB f.safe k || waitsAt f k
def mendSafe (f : Fn) : List Bool := (List.range f.code.length).map (mendAt f)
/-- The first j places done. -/
def mendRow (f : Fn) (j : Nat) : List Bool := (List.range f.code.length).map fun k => if k < j then mendAt f k else safeB f.safe k
theorem mendRow_len (f : Fn) (j : Nat) : (mendRow f j).length = f.code.length := by simp [mendRow]
theorem mendRow_all (f : Fn) : mendRow f f.code.length = mendSafe f := by
  unfold mendRow mendSafe
  apply List.map_congr_left
  intro k hk
  rw [if_pos (by simpa using hk)]
theorem mendRow_yes (f : Fn) (j : Nat) (h : waitsAt f j = true) : (boolVals (mendRow f j)).set j (.bool true) = boolVals (mendRow f (j + 1)) := by
  apply List.ext_getElem
  · simp [boolVals, mendRow]
  · intro i h1 h2
    simp only [boolVals, mendRow, List.getElem_set, List.getElem_map, List.getElem_range]
    by_cases e : j = i
    · subst e; simp [mendAt, h]
    · rw [if_neg e]
      by_cases hlt : i < j
      · rw [if_pos hlt, if_pos (by omega)]
      · rw [if_neg hlt, if_neg (by omega)]
theorem mendRow_no (f : Fn) (j : Nat) (h : waitsAt f j = false) : mendRow f (j + 1) = mendRow f j := by
  unfold mendRow
  apply List.map_congr_left
  intro k hk
  by_cases e : k = j
  · subst e; simp [mendAt, h]
  · by_cases hlt : k < j
    · rw [if_pos hlt, if_pos (by omega)]
    · rw [if_neg hlt, if_neg (by omega)]
theorem mendRow_zero (f : Fn) : splice (List.replicate f.code.length (.bool false)) 0 (boolVals (f.safe.take f.code.length)) = boolVals (mendRow f 0) := by
  apply List.ext_getElem
  · simp [splice, boolVals, mendRow]; omega
  · intro i h1 h2
    have hi : i < f.code.length := by simpa [boolVals, mendRow] using h2
    simp only [splice, boolVals, mendRow, List.getElem_map, List.getElem_range, List.take_zero, List.nil_append, Nat.zero_add]
    by_cases hs : i < f.safe.length
    · rw [List.getElem_append_left (by simp; omega)]
      simp [safeB, hs]
    · rw [List.getElem_append_right (by simp; omega)]
      simp [safeB, hs]
def mendF (f : Fn) : Fn := ⟨f.code, mendSafe f⟩
def mendP (fs : List Fn) : List Fn := fs.map mendF
end Go.Proofs.YtfgaonkoaolffaaDoor

/-
  The library's table math/bits.deBruijn64tab: what the variable holds, as the row lists it and as cells.
-/
import Derived.Test.YtecigfjnpikbjaaDoorRows
import Derived.Shelf.Spec.TrailingZeros
import Derived.Lib.LaidTab
import Derived.Below
namespace Go.Proofs.YtecigfjnpikbjaaDoor
open Go.RowKit
/-- The library's table in memory. -/
def Tab (w : World) : Prop := TabAt 0 Lib.deBruijn64tab w
def tabArr : Array Value := (Lib.deBruijn64tab.map fun x : Nat => Value.int .u8 (x : Int)).toArray
theorem Tab.keep {w w' : World} (h : Tab w) (hk : ∀ p : Addr, p.block = 0 → w'.cell? p = w.cell? p) : Tab w' := fun j hj => (hk _ rfl).trans (h j hj)
theorem Tab.pos {w : World} (h : Tab w) : 0 < w.heap.size := by
  have h0 := h 0 (by decide)
  rcases Nat.lt_or_ge 0 w.heap.size with hlt | hge
  · exact hlt
  · unfold World.cell? at h0
    rw [Array.getElem?_eq_none hge] at h0
    cases h0
theorem Tab.below {w w' : World} {B : Nat} (h : Tab w) (hb : Below B w w') (hB : 0 < B) : Tab w' := h.keep fun p hp => hb.cell (by rw [hp]; exact hB)
theorem Tab.step {w w' : World} (h : Tab w) (hb : Below w.heap.size w w') : Tab w' := h.below hb h.pos
theorem laid_is : (Rows.laid_math_bits_deBruijn64tab : DataW Unit) = Lib.tabData .u8 (Lib.deBruijn64tab.map fun x : Nat => (x : Int)) := by kernel_rfl
theorem Tryd.gTab : Tryd.prog.globalNamed "math/bits.deBruijn64tab" = some 0 := by kernel_rfl
theorem Tryd.gTabType : (Tryd.prog.globals[0]?).map (·.type) = some 60 := by kernel_rfl
theorem tab_of_laid {W : World} (h : laidMet Tryd.prog [("math/bits.deBruijn64tab", Rows.laid_math_bits_deBruijn64tab)] W) : Tab W := by
  rw [laid_is] at h
  have ht := Lib.tabIs_of_head Tryd.gTab Tryd.gTabType Tryd.underlying60 Tryd.underlying5 (by kernel_rfl) (by kernel_rfl) h
  intro j hj
  have := ht.cell Tryd.gTab j (by simpa using hj)
  rw [this]
  simp [hj]
end Go.Proofs.YtecigfjnpikbjaaDoor

/-
  Proved: the law SuspLogs holds for every int, every slice of acts and every int. Conditions: none.
-/
import Derived.Test.YtndidpeklbllpaaLaw26s
import Derived.Test.YtndidpeklbllpaaFrame
namespace Go.Proofs.Ytndidpeklbllpaa
open Go.ChangeShapes Go.WideShapes Go.ChangeAt Go.RowKit Go.Joins Go.Deep
section
variable {H : Type} {enc : TypeId × Value → H} {w : World} {base : Nat}
theorem Try.cellsAct : Try.prog.cellsOf 31 = 2 := by kernel_rfl
theorem act_of {n : Nat} {cs : List Value} {y : DataW H × List MemPlace} (h : DataW.trod enc Try.prog w base (fun _ => true) true n 31 cs = some y) : ∃ f : Int × Int, cs = actVals f ∧ (I64 f.1 ∧ I64 f.2) := by
  obtain ⟨hlen, k, hg⟩ := open_fields Try.underlying31 (by kernel_rfl) Try.cellsAct h
  obtain ⟨c0, y0, k0, g0, _⟩ := hg 0 _ rfl
  obtain ⟨c1, y1, k1, g1, _⟩ := hg 1 _ rfl
  obtain ⟨b0, e0, _, w0⟩ := DataW.trod_int Try.underlying3 g0
  obtain ⟨b1, e1, _, w1⟩ := DataW.trod_int Try.underlying3 g1
  simp only [List.cons.injEq, and_true] at e0 e1
  subst e0 e1
  match cs, hlen with
  | [x0, x1], _ =>
    simp at k0 k1
    subst k0 k1
    exact ⟨(b0, b1), rfl, i64_wf w0, i64_wf w1⟩
/-- An argument that is a slice of acts, nil let in. -/
theorem open_acts {b0 : Nat} {v : Value} {d : DataW H} {p : List MemPlace} (hv : Value.okWide Try.prog w .any b0 22 v) (h : DataW.Trod enc Try.prog w base (fun _ => true) true 22 v d p) (hlt : ∀ x ∈ p, x.block < w.heap.size) :
    ∃ (A : Option Addr) (n c : Nat) (l : List (Int × Int)), v = .slice A n c ∧ l.length = n ∧ n ≤ c ∧ c ≤ maxLen ∧ (∀ a ∈ l, I64 a.1 ∧ I64 a.2) ∧ Row w w.heap.size A (l.flatMap actVals) := by
  obtain ⟨a0, len, cap, rfl⟩ := okWide_slice Try.underlying22 hv
  obtain ⟨fuel, hf⟩ := h
  obtain ⟨A, n, c, l, h1, h2, h3, h4, h5, h6⟩ := open_slice_of actVals 2 actVals_len (by omega) (fun a : Int × Int => I64 a.1 ∧ I64 a.2) Try.underlying22 Try.cellsAct (fun n cs y hy _ => act_of hy) hf hlt
  exact ⟨A, n, c, l, h1, h2, h3, h4, h5, h6⟩
end
theorem logs_law (A : Option Addr) (n c : Nat) (acts : List (Int × Int)) (gs t : Int) (w : World) (hn : acts.length = n) (hm : n ≤ maxLen) (hok : ∀ a ∈ acts, I64 a.1 ∧ I64 a.2) (hr : Row w w.heap.size A (acts.flatMap actVals)) :
    Calls Try.prog 3 #[.int .i64 gs, .slice A n c, .int .i64 t] w fun e w' => e = .returned (.bool true) ∧ Below w.heap.size w w' := by
  unfold maxLen at hm
  by_cases h100 : 100 < n
  · clear hn hr hok
    go_enter Try.func3, Try.ntmps3
    go_wp2_with (go_at_call 4; refine (alive26 _).mono ?_; rintro e w1 ⟨rfl, rfl⟩)
    go_ret
    exact ⟨rfl, Below.refl _ _⟩
  · by_cases hg : gs < 0 ∨ 64 < gs
    · exact logs_bad A n c acts gs t w hn (by omega) hg
    · obtain ⟨g, rfl⟩ := Int.eq_ofNat_of_zero_le (show 0 ≤ gs by omega)
      exact logs_main A n c acts g t w hn (by omega) (by omega) hok hr
set_option maxRecDepth 100000 in
theorem suspLogs_lifted (os : Os) (started : os.Started) (H : Type) (enc : TypeId × Value → H) :
    ReturnsInHanded {} Try.checked os 3 .any (Rows.suspLogsSpec.pre6 enc Try.prog Try.f3 Rows.suspLogsRow.domain false) (Rows.suspLogsSpec.post enc Try.prog Try.f3 false true false false) := by
  refine returnsInHanded_of_change (C := Try.checked) Try.own started (by kernel_rfl) Try.func3
    (ChangeSpec.witness6 (enc := enc) (C := Try.checked) false ⟨#[], #[.int .i64 0, .slice none 0 0, .int .i64 0], []⟩ 8 (by kernel_rfl) (by kernel_rfl) (by kernel_rfl) (by kernel_rfl)) ?_
  intro W base args ds gs before hval0 hW _ _
  have hval : ∀ (j : Nat) t v, Try.f3.params[j]? = some t → args[j]? = some v → Value.okWide Try.prog W .any base t v := hval0
  have hW' := hW
  obtain ⟨p, q, hA0, hV, rfl, _, _⟩ := hW
  have hA : DataW.TrodAll enc Try.prog W 0 (fun _ => true) true Try.f3.params.toList args.toList ds p := hA0
  rw [Try.params3] at hA hval
  have hlt : ∀ x ∈ p, x.block < W.heap.size := fun x hx => hW'.lt x (by simp [hx])
  obtain ⟨v0, v1, v2, d0, d1, d2, p0, p1, p2, rfl, rfl, rfl, h0, h1, h2⟩ := trodAll_three hA
  obtain ⟨x, rfl, rfl, rfl, wx⟩ := open_int Try.underlying3 (hval 0 3 v0 rfl rfl) h0
  obtain ⟨B, m, d, acts, rfl, hl2, hnc2, hm2, hok2, hr2⟩ := open_acts (hval 1 _ v1 rfl rfl) h1 (fun q hq => hlt q (by simp [hq]))
  obtain ⟨y, rfl, rfl, rfl, wy⟩ := open_int Try.underlying3 (hval 2 3 v2 rfl rfl) h2
  obtain ⟨rfl, rfl⟩ := trodVars_none hV
  refine (logs_law B m d acts x y W hl2 (Nat.le_trans hnc2 hm2) hok2 hr2).mono fun e W' ⟨he, hb⟩ => ?_
  subst he
  exact ⟨_, rfl, law_post Try.laidOut rfl Try.underlying4 (by kernel_rfl) (by kernel_rfl) ⟨rfl, rfl, rfl⟩ hW' hb⟩

theorem suspLogs_holds : Rows.SuspLogsSaid :=
  OpenClaim.holds_of_wide 3 Try.f3 rfl rfl rfl rfl rfl rfl rfl ⟨rfl, rfl, rfl, rfl, rfl⟩ rfl rfl rfl rfl rfl (by kernel_rfl) Try.func3 (by kernel_rfl)
    (of_decide_eq_true (by kernel_rfl)) (by unfold Func.isWrapper; first | (rw [if_pos (by decide +kernel)]; kernel_rfl) | (rw [if_neg (by decide +kernel)]; exact ⟨rfl, rfl⟩))
    (fun os started H enc _ => suspLogs_lifted os started H enc)
#print axioms suspLogs_holds

end Go.Proofs.Ytndidpeklbllpaa

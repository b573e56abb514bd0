/-
  Proved: the laws DecideActs, DecideClears, DecideEnds hold for every input. Conditions: none.
-/
import Derived.Test.YthbpaggeajjepaaEnds25
import Derived.Test.YthbpaggeajjepaaOpen
import Derived.Test.YthbpaggeajjepaaFrame
namespace Go.Proofs.Ythbpaggeajjepaa
open Go.ChangeShapes Go.WideShapes Go.ChangeAt Go.RowKit Go.Joins Go.Deep
theorem Try.cellsFunc : Try.prog.cellsOf 35 = 2 := by kernel_rfl
theorem Try.cellsFlags : Try.prog.cellsOf 37 = 6 := by kernel_rfl
theorem Try.cellsBool : Try.prog.cellsOf 4 = 1 := by kernel_rfl
section
variable {H : Type} {enc : TypeId × Value → H} {w : World} {base : Nat}
/-- A function of the bytecode, by value: of its code the length alone. -/
theorem open_func {b0 : Nat} {v : Value} {d : DataW H} {p : List MemPlace} (hv : Value.okWide Try.prog w .any b0 35 v) (h : DataW.Trod enc Try.prog w base (fun _ => true) true 35 v d p) (hlt : ∀ q ∈ p, q.block < w.heap.size) :
    ∃ (A B : Option Addr) (n m c d : Nat) (ss : List Bool), v = .agg #[.slice A n c, .slice B m d] ∧ ss.length = m ∧ n ≤ maxLen ∧ m ≤ maxLen ∧ Row w w.heap.size B (bools ss) := by
  obtain ⟨v0, v1, y0, y1, k, rfl, _, hp, hy0, hy1⟩ := open_agg2 Try.underlying35 (by kernel_rfl) Try.cellsFunc hv h
  rcases open_slice Try.underlying32 hy0 with ⟨hc0, _⟩ | ⟨a, len, cap, m, n, D, Pl, hc0, _, hl, hm, _⟩
  all_goals
    simp at hc0
    subst hc0
    obtain ⟨B, m', d', ss, rfl, h1, h2, h3, h4⟩ := open_bools Try.underlying33 Try.underlying4 Try.cellsBool hy1 (fun q hq => hlt q (by rw [hp]; simp [hq]))
    exact ⟨_, _, _, _, _, _, ss, rfl, h1, by first | omega | simp [maxLen], by omega, h4⟩
theorem open_flags {b0 : Nat} {v : Value} {d : DataW H} {p : List MemPlace} (hv : Value.okWide Try.prog w .any b0 37 v) (h : DataW.Trod enc Try.prog w base (fun _ => true) true 37 v d p) :
    ∃ b0 b1 b2 b3 b4 b5 : Bool, v = .agg #[.bool b0, .bool b1, .bool b2, .bool b3, .bool b4, .bool b5] := by
  obtain ⟨cs, rfl, hsz⟩ := okWide_struct Try.underlying37 hv
  obtain ⟨fuel, hf⟩ := h
  obtain ⟨hlen, k, hg⟩ := open_fields Try.underlying37 (by kernel_rfl) Try.cellsFlags hf
  obtain ⟨c0, y0, k0, g0, _⟩ := hg 0 _ rfl
  obtain ⟨c1, y1, k1, g1, _⟩ := hg 1 _ rfl
  obtain ⟨c2, y2, k2, g2, _⟩ := hg 2 _ rfl
  obtain ⟨c3, y3, k3, g3, _⟩ := hg 3 _ rfl
  obtain ⟨c4, y4, k4, g4, _⟩ := hg 4 _ rfl
  obtain ⟨c5, y5, k5, g5, _⟩ := hg 5 _ rfl
  obtain ⟨b0, e0, _⟩ := DataW.trod_bool Try.underlying4 g0
  obtain ⟨b1, e1, _⟩ := DataW.trod_bool Try.underlying4 g1
  obtain ⟨b2, e2, _⟩ := DataW.trod_bool Try.underlying4 g2
  obtain ⟨b3, e3, _⟩ := DataW.trod_bool Try.underlying4 g3
  obtain ⟨b4, e4, _⟩ := DataW.trod_bool Try.underlying4 g4
  obtain ⟨b5, e5, _⟩ := DataW.trod_bool Try.underlying4 g5
  simp only [List.cons.injEq, and_true] at e0 e1 e2 e3 e4 e5
  subst e0 e1 e2 e3 e4 e5
  obtain ⟨l⟩ := cs
  simp only [Value.cells] at hlen k0 k1 k2 k3 k4 k5
  match l, hlen with
  | [x0, x1, x2, x3, x4, x5], _ =>
    simp at k0 k1 k2 k3 k4 k5
    subst k0 k1 k2 k3 k4 k5
    exact ⟨b0, b1, b2, b3, b4, b5, rfl⟩
end
set_option maxRecDepth 100000 in
theorem decideActs_lifted (os : Os) (started : os.Started) (H : Type) (enc : TypeId × Value → H) :
    ReturnsInHanded {} Try.checked os 4 .any (Rows.decideActsSpec.pre6 enc Try.prog Try.f4 Rows.decideActsRow.domain false) (Rows.decideActsSpec.post enc Try.prog Try.f4 false true false false) := by
  refine returnsInHanded_of_change (C := Try.checked) Try.own started (by kernel_rfl) Try.func4
    (ChangeSpec.witness6 (enc := enc) (C := Try.checked) false ⟨#[], #[.agg #[.slice none 0 0, .slice none 0 0], .int .i64 0, .agg #[.bool false, .bool false, .bool false, .bool false, .bool false, .bool false]], []⟩ 8 (by kernel_rfl) (by kernel_rfl) (by kernel_rfl) (by kernel_rfl)) ?_
  intro W base args ds gs before hval0 hW _ _
  have hval : ∀ (j : Nat) t v, Try.f4.params[j]? = some t → args[j]? = some v → Value.okWide Try.prog W .any base t v := hval0
  have hW' := hW
  obtain ⟨p, q, hA0, hV, rfl, _, _⟩ := hW
  have hA : DataW.TrodAll enc Try.prog W 0 (fun _ => true) true Try.f4.params.toList args.toList ds p := hA0
  rw [Try.params4] at hA hval
  have hlt : ∀ x ∈ p, x.block < W.heap.size := fun x hx => hW'.lt x (by simp [hx])
  obtain ⟨v0, v1, v2, d0, d1, d2, p0, p1, p2, rfl, rfl, rfl, h0, h1, h2⟩ := trodAll_three hA
  obtain ⟨A, B, n, m, c, d, ss, rfl, hl, hn, hm, hr⟩ := open_func (hval 0 _ v0 rfl rfl) h0 (fun q hq => hlt q (by simp [hq]))
  obtain ⟨x, rfl, rfl, rfl, wx⟩ := open_int Try.underlying3 (hval 1 3 v1 rfl rfl) h1
  obtain ⟨b0, b1, b2, b3, b4, b5, rfl⟩ := open_flags (hval 2 _ v2 rfl rfl) h2
  obtain ⟨rfl, rfl⟩ := trodVars_none hV
  refine (acts_law A B n m c d ss x b0 b1 b2 b3 b4 b5 W hl hn hm hr).mono fun e W' ⟨he, hb⟩ => ?_
  subst he
  exact ⟨_, rfl, law_post Try.laidOut rfl Try.underlying4 (by kernel_rfl) (by kernel_rfl) ⟨rfl, rfl, rfl⟩ hW' hb⟩

theorem decideActs_holds : Rows.DecideActsSaid :=
  OpenClaim.holds_of_wide 4 Try.f4 rfl rfl rfl rfl rfl rfl rfl ⟨rfl, rfl, rfl, rfl, rfl⟩ rfl rfl rfl rfl rfl (by kernel_rfl) Try.func4 (by kernel_rfl)
    (of_decide_eq_true (by kernel_rfl)) (by unfold Func.isWrapper; first | (rw [if_pos (by decide +kernel)]; kernel_rfl) | (rw [if_neg (by decide +kernel)]; exact ⟨rfl, rfl⟩))
    (fun os started H enc _ => decideActs_lifted os started H enc)
#print axioms decideActs_holds

set_option maxRecDepth 100000 in
theorem decideEnds_lifted (os : Os) (started : os.Started) (H : Type) (enc : TypeId × Value → H) :
    ReturnsInHanded {} Try.checked os 6 .any (Rows.decideEndsSpec.pre6 enc Try.prog Try.f6 Rows.decideEndsRow.domain false) (Rows.decideEndsSpec.post enc Try.prog Try.f6 false true false false) := by
  refine returnsInHanded_of_change (C := Try.checked) Try.own started (by kernel_rfl) Try.func6
    (ChangeSpec.witness6 (enc := enc) (C := Try.checked) false ⟨#[], #[.agg #[.slice none 0 0, .slice none 0 0], .int .i64 0, .agg #[.bool false, .bool false, .bool false, .bool false, .bool false, .bool false]], []⟩ 8 (by kernel_rfl) (by kernel_rfl) (by kernel_rfl) (by kernel_rfl)) ?_
  intro W base args ds gs before hval0 hW _ _
  have hval : ∀ (j : Nat) t v, Try.f6.params[j]? = some t → args[j]? = some v → Value.okWide Try.prog W .any base t v := hval0
  have hW' := hW
  obtain ⟨p, q, hA0, hV, rfl, _, _⟩ := hW
  have hA : DataW.TrodAll enc Try.prog W 0 (fun _ => true) true Try.f6.params.toList args.toList ds p := hA0
  rw [Try.params6] at hA hval
  have hlt : ∀ x ∈ p, x.block < W.heap.size := fun x hx => hW'.lt x (by simp [hx])
  obtain ⟨v0, v1, v2, d0, d1, d2, p0, p1, p2, rfl, rfl, rfl, h0, h1, h2⟩ := trodAll_three hA
  obtain ⟨A, B, n, m, c, d, ss, rfl, hl, hn, hm, hr⟩ := open_func (hval 0 _ v0 rfl rfl) h0 (fun q hq => hlt q (by simp [hq]))
  obtain ⟨x, rfl, rfl, rfl, wx⟩ := open_int Try.underlying3 (hval 1 3 v1 rfl rfl) h1
  obtain ⟨b0, b1, b2, b3, b4, b5, rfl⟩ := open_flags (hval 2 _ v2 rfl rfl) h2
  obtain ⟨rfl, rfl⟩ := trodVars_none hV
  refine (ends_law A B n m c d ss x b0 b1 b2 b3 b4 b5 W hl hn hm hr).mono fun e W' ⟨he, hb⟩ => ?_
  subst he
  exact ⟨_, rfl, law_post Try.laidOut rfl Try.underlying4 (by kernel_rfl) (by kernel_rfl) ⟨rfl, rfl, rfl⟩ hW' hb⟩

theorem decideEnds_holds : Rows.DecideEndsSaid :=
  OpenClaim.holds_of_wide 6 Try.f6 rfl rfl rfl rfl rfl rfl rfl ⟨rfl, rfl, rfl, rfl, rfl⟩ rfl rfl rfl rfl rfl (by kernel_rfl) Try.func6 (by kernel_rfl)
    (of_decide_eq_true (by kernel_rfl)) (by unfold Func.isWrapper; first | (rw [if_pos (by decide +kernel)]; kernel_rfl) | (rw [if_neg (by decide +kernel)]; exact ⟨rfl, rfl⟩))
    (fun os started H enc _ => decideEnds_lifted os started H enc)
#print axioms decideEnds_holds

set_option maxRecDepth 100000 in
theorem decideClears_lifted (os : Os) (started : os.Started) (H : Type) (enc : TypeId × Value → H) :
    ReturnsInHanded {} Try.checked os 5 .any (Rows.decideClearsSpec.pre6 enc Try.prog Try.f5 Rows.decideClearsRow.domain false) (Rows.decideClearsSpec.post enc Try.prog Try.f5 false true false false) := by
  refine returnsInHanded_of_change (C := Try.checked) Try.own started (by kernel_rfl) Try.func5
    (ChangeSpec.witness6 (enc := enc) (C := Try.checked) false ⟨#[], #[.agg #[.bool false, .bool false, .bool false, .bool false, .bool false, .bool false], .int .i64 0], []⟩ 8 (by kernel_rfl) (by kernel_rfl) (by kernel_rfl) (by kernel_rfl)) ?_
  intro W base args ds gs before hval0 hW _ _
  have hval : ∀ (j : Nat) t v, Try.f5.params[j]? = some t → args[j]? = some v → Value.okWide Try.prog W .any base t v := hval0
  have hW' := hW
  obtain ⟨p, q, hA0, hV, rfl, _, _⟩ := hW
  have hA : DataW.TrodAll enc Try.prog W 0 (fun _ => true) true Try.f5.params.toList args.toList ds p := hA0
  rw [Try.params5] at hA hval
  obtain ⟨v0, v1, d0, d1, p0, p1, rfl, rfl, rfl, h0, h1⟩ := trodAll_two hA
  obtain ⟨b0, b1, b2, b3, b4, b5, rfl⟩ := open_flags (hval 0 _ v0 rfl rfl) h0
  obtain ⟨x, rfl, rfl, rfl, wx⟩ := open_int Try.underlying3 (hval 1 3 v1 rfl rfl) h1
  obtain ⟨rfl, rfl⟩ := trodVars_none hV
  refine (clears_law b0 b1 b2 b3 b4 b5 x W).mono fun e W' ⟨he, hb⟩ => ?_
  subst he
  exact ⟨_, rfl, law_post Try.laidOut rfl Try.underlying4 (by kernel_rfl) (by kernel_rfl) ⟨rfl, rfl, rfl⟩ hW' hb⟩

theorem decideClears_holds : Rows.DecideClearsSaid :=
  OpenClaim.holds_of_wide 5 Try.f5 rfl rfl rfl rfl rfl rfl rfl ⟨rfl, rfl, rfl, rfl, rfl⟩ rfl rfl rfl rfl rfl (by kernel_rfl) Try.func5 (by kernel_rfl)
    (of_decide_eq_true (by kernel_rfl)) (by unfold Func.isWrapper; first | (rw [if_pos (by decide +kernel)]; kernel_rfl) | (rw [if_neg (by decide +kernel)]; exact ⟨rfl, rfl⟩))
    (fun os started H enc _ => decideClears_lifted os started H enc)
#print axioms decideClears_holds

end Go.Proofs.Ythbpaggeajjepaa

/-
  Contracts of decide.Clear, of its reference, of decide.Name, of alive.
-/
import Derived.Test.YthbpaggeajjepaaDecide2
namespace Go.Proofs.Ythbpaggeajjepaa
open Go.RowKit
/-- Which flags an action leaves: of Armed and Preempt, of Barrier, of Suspend, of Spent. -/
def keepA (a : Int) : Bool := !(a == 2 || a == 3 || a == 4)
def keepB (a : Int) : Bool := !(a == 1)
def keepS (a : Int) : Bool := !(a == 2)
def keepP (a : Int) : Bool := !(a == 2 || a == 3)
theorem clear_else (f : FuncId) (hf : f = 24 ∨ f = 25) (a : Int) (b0 b1 b2 b3 b4 b5 : Bool) (w : World) (h1 : (a == 1) = false) (h2 : (a == 2) = false) (h3 : (a == 3) = false) (h4 : (a == 4) = false) :
    Calls Try.prog f #[.agg #[.bool b0, .bool b1, .bool b2, .bool b3, .bool b4, .bool b5], .int .i64 a] w fun e w' => e = .returned (.agg #[.bool b0, .bool b1, .bool b2, .bool b3, .bool b4, .bool b5]) ∧ Below w.heap.size w w' := by
  rcases hf with rfl | rfl
  · go_enter Try.func24, Try.ntmps24
    go_wp2
    exact bodyPost_ret (v := .agg #[.bool b0, .bool b1, .bool b2, .bool b3, .bool b4, .bool b5]) (by simp [results, Try.results24, go_sem]) rfl ⟨rfl, ((Below.refl _ _).alloc (Nat.le_refl _) _).alloc (by simp) _⟩
  · go_enter Try.func25, Try.ntmps25
    go_wp2
    exact bodyPost_ret (v := .agg #[.bool b0, .bool b1, .bool b2, .bool b3, .bool b4, .bool b5]) (by simp [results, Try.results25, go_sem]) rfl ⟨rfl, ((Below.refl _ _).alloc (Nat.le_refl _) _).alloc (by simp) _⟩
theorem clear_at (f : FuncId) (hf : f = 24 ∨ f = 25) (a : Int) (b0 b1 b2 b3 b4 b5 c0 c1 c2 c4 c5 : Bool) (w : World)
    (h : (a = 1 ∧ c0 = b0 ∧ c1 = b1 ∧ c2 = false ∧ c4 = b4 ∧ c5 = b5) ∨ (a = 2 ∧ c0 = false ∧ c1 = false ∧ c2 = b2 ∧ c4 = false ∧ c5 = false) ∨ (a = 3 ∧ c0 = false ∧ c1 = false ∧ c2 = b2 ∧ c4 = b4 ∧ c5 = false) ∨ (a = 4 ∧ c0 = false ∧ c1 = false ∧ c2 = b2 ∧ c4 = b4 ∧ c5 = b5)) :
    Calls Try.prog f #[.agg #[.bool b0, .bool b1, .bool b2, .bool b3, .bool b4, .bool b5], .int .i64 a] w fun e w' => e = .returned (.agg #[.bool c0, .bool c1, .bool c2, .bool b3, .bool c4, .bool c5]) ∧ Below w.heap.size w w' := by
  rcases h with ⟨rfl, rfl, rfl, rfl, rfl, rfl⟩ | ⟨rfl, rfl, rfl, rfl, rfl, rfl⟩ | ⟨rfl, rfl, rfl, rfl, rfl, rfl⟩ | ⟨rfl, rfl, rfl, rfl, rfl, rfl⟩
  all_goals
    rcases hf with rfl | rfl
    · go_enter Try.func24, Try.ntmps24
      go_wp2
      refine bodyPost_ret (by simp [results, Try.results24, go_sem]) rfl ⟨rfl, ((Below.refl _ _).alloc (Nat.le_refl _) _).alloc (by simp) _⟩
    · go_enter Try.func25, Try.ntmps25
      go_wp2
      refine bodyPost_ret (by simp [results, Try.results25, go_sem]) rfl ⟨rfl, ((Below.refl _ _).alloc (Nat.le_refl _) _).alloc (by simp) _⟩
theorem clear_any (f : FuncId) (hf : f = 24 ∨ f = 25) (a : Int) (b0 b1 b2 b3 b4 b5 : Bool) (w : World) :
    Calls Try.prog f #[.agg #[.bool b0, .bool b1, .bool b2, .bool b3, .bool b4, .bool b5], .int .i64 a] w fun e w' => e = .returned (.agg #[.bool (b0 && keepA a), .bool (b1 && keepA a), .bool (b2 && keepB a), .bool b3, .bool (b4 && keepS a), .bool (b5 && keepP a)]) ∧ Below w.heap.size w w' := by
  by_cases h1 : a = 1
  · subst h1
    exact clear_at f hf 1 b0 b1 b2 b3 b4 b5 _ _ _ _ _ w (.inl ⟨rfl, by simp [keepA], by simp [keepA], by simp [keepB], by simp [keepS], by simp [keepP]⟩)
  · by_cases h2 : a = 2
    · subst h2
      exact clear_at f hf 2 b0 b1 b2 b3 b4 b5 _ _ _ _ _ w (.inr (.inl ⟨rfl, by simp [keepA], by simp [keepA], by simp [keepB], by simp [keepS], by simp [keepP]⟩))
    · by_cases h3 : a = 3
      · subst h3
        exact clear_at f hf 3 b0 b1 b2 b3 b4 b5 _ _ _ _ _ w (.inr (.inr (.inl ⟨rfl, by simp [keepA], by simp [keepA], by simp [keepB], by simp [keepS], by simp [keepP]⟩)))
      · by_cases h4 : a = 4
        · subst h4
          exact clear_at f hf 4 b0 b1 b2 b3 b4 b5 _ _ _ _ _ w (.inr (.inr (.inr ⟨rfl, by simp [keepA], by simp [keepA], by simp [keepB], by simp [keepS], by simp [keepP]⟩)))
        · have e1 : (a == 1) = false := by simpa using h1
          have e2 : (a == 2) = false := by simpa using h2
          have e3 : (a == 3) = false := by simpa using h3
          have e4 : (a == 4) = false := by simpa using h4
          have := clear_else f hf a b0 b1 b2 b3 b4 b5 w e1 e2 e3 e4
          simpa [keepA, keepB, keepS, keepP, e1, e2, e3, e4] using this
/-- The names of the actions. -/
def actName (a : Int) : ByteArray := if a = 0 then ⟨#[103, 111]⟩ else if a = 1 then ⟨#[115, 101, 114, 118, 101]⟩ else if a = 2 then ⟨#[112, 97, 114, 107]⟩ else if a = 3 then ⟨#[114, 101, 113, 117, 101, 117, 101]⟩ else if a = 4 then ⟨#[102, 111, 114, 103, 101, 116]⟩ else ⟨#[]⟩
theorem dname_any (a : Int) (w : World) : Calls Try.prog 26 #[.int .i64 a] w fun e w' => e = .returned (.string (actName a)) ∧ Below w.heap.size w w' := by
  by_cases h0 : 0 ≤ a
  · by_cases h5 : a < 5
    · have h : a = 0 ∨ a = 1 ∨ a = 2 ∨ a = 3 ∨ a = 4 := by omega
      clear h0 h5
      rcases h with rfl | rfl | rfl | rfl | rfl
      all_goals
        go_enter Try.func26, Try.ntmps26
        go_wp2
        go_ret
        exact ⟨by kernel_rfl, (Below.refl _ _).alloc (Nat.le_refl _) _⟩
    · have e : actName a = ⟨#[]⟩ := by unfold actName; rw [if_neg (by omega), if_neg (by omega), if_neg (by omega), if_neg (by omega), if_neg (by omega)]
      rw [e]; clear e
      go_enter Try.func26, Try.ntmps26
      go_wp2
      go_ret
      exact ⟨rfl, (Below.refl _ _).alloc (Nat.le_refl _) _⟩
  · have e : actName a = ⟨#[]⟩ := by unfold actName; rw [if_neg (by omega), if_neg (by omega), if_neg (by omega), if_neg (by omega), if_neg (by omega)]
    rw [e]; clear e
    go_enter Try.func26, Try.ntmps26
    go_wp2
    go_ret
    exact ⟨rfl, (Below.refl _ _).alloc (Nat.le_refl _) _⟩
theorem alive25 (w : World) : Calls Try.prog 18 #[] w fun e w' => e = .returned (.bool true) ∧ Below w.heap.size w w' := by
  have e1 : decideI 1 [false] 0 false true false true false false = 3 := by decide
  have e2 : actName 3 = ⟨#[114, 101, 113, 117, 101, 117, 101]⟩ := by kernel_rfl
  go_enter Try.func18, Try.ntmps18
  go_wp2_with fail
  refine (decide_any _ _ _ _ _ _ [false] _ _ _ _ _ _ _ _ rfl (by simp [maxLen]) (by simp [maxLen]) ?_).mono ?_
  · refine .inr ⟨_, 0, rfl, ?_, fun j u hu => ?_⟩
    · simp
    · match j, hu with
      | 0, hu => simp [bools] at hu; subst hu; simp [go_sem]
  · rintro e w1 ⟨rfl, hb1⟩
    go_wp2_with (go_at_call 26; refine (dname_any _ _).mono ?_; rintro e w2 ⟨rfl, hb2⟩)
    go_ret
    have hB : Below w.heap.size w (((w.alloc (.cells #[.int .i64 14, .int .i64 0, .int .i64 0, .int .i64 0, .int .i64 0] 65)).alloc (.cells #[.bool false] 4)).alloc (.cells #[.slice (some ⟨w.heap.size, 0, none⟩) 1 1, .slice (some ⟨w.heap.size + 1, 0, none⟩) 1 1] 35)) :=
      (((Below.refl _ _).alloc (Nat.le_refl _) _).alloc (by simp) _).alloc (by simp; omega) _
    have hB1 := hB.trans (hb1.mono hB.size)
    exact ⟨rfl, hB1.trans (hb2.mono hB1.size)⟩
end Go.Proofs.Ythbpaggeajjepaa

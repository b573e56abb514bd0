/-
  Chapter 39, plain: heads, counts of open places, which places are marked; the gap then, and that marked again it stays. No program in sight.
-/
import Derived.Test.YtfgaonkoaolffaaDoorNxt8
import Derived.Test.YtfgaonkoaolffaaDoorEnv8
import Derived.Test.YtfgaonkoaolffaaDoorCheck9
namespace Go.Proofs.YtfgaonkoaolffaaDoor
/-- The count of y, of the places below p. -/
def cntUp (nx : Nat → List Nat) (cnt : List Nat) (p y : Nat) : Nat := (List.range p).foldl (fun a k => if y ∈ nx k then max a (1 + cnt.getD k 0) else a) 1
def stepM (mx : Nat) (nx : Nat → List Nat) (st : List Bool × List Nat) (pc : Nat) : List Bool × List Nat :=
  if openB st.1 pc = true then (if mx < cntUp nx st.2 pc pc then (st.1.set pc true, st.2) else (st.1, st.2.set pc (cntUp nx st.2 pc pc))) else st
def runM (mx : Nat) (nx : Nat → List Nat) (n : Nat) (s : List Bool) (k : Nat) : List Bool × List Nat := (List.range k).foldl (stepM mx nx) (s, List.replicate n 0)
def hdL (nx : Nat → List Nat) (n : Nat) : List Nat := (List.range n).flatMap fun pc => (nx pc).filter fun k => decide (k ≤ pc)
def headS (s : List Bool) (h : List Nat) : List Bool := h.foldl (fun s k => if 0 < k then s.set k true else s) s
section
variable {mx n : Nat} {nx : Nat → List Nat} {s : List Bool}
theorem runM_succ (k : Nat) : runM mx nx n s (k + 1) = stepM mx nx (runM mx nx n s k) k := by
  unfold runM
  rw [List.range_succ, List.foldl_append]
  rfl
theorem cntUp_succ (cnt : List Nat) (p y : Nat) : cntUp nx cnt (p + 1) y = if y ∈ nx p then max (cntUp nx cnt p y) (1 + cnt.getD p 0) else cntUp nx cnt p y := by
  unfold cntUp
  rw [List.range_succ, List.foldl_append]
  rfl
theorem cntUp_congr {c c' : List Nat} (p y : Nat) (h : ∀ k, k < p → c.getD k 0 = c'.getD k 0) : cntUp nx c p y = cntUp nx c' p y := by
  induction p with
  | zero => rfl
  | succ p ih => rw [cntUp_succ, cntUp_succ, ih (fun k hk => h k (by omega)), h p (by omega)]
theorem cntUp_pos (cnt : List Nat) (p y : Nat) : 1 ≤ cntUp nx cnt p y := by
  induction p with
  | zero => exact Nat.le_refl _
  | succ p ih =>
    rw [cntUp_succ]
    split
    · omega
    · exact ih
theorem cntUp_mem {cnt : List Nat} {p y k : Nat} (hk : k < p) (hy : y ∈ nx k) : 1 + cnt.getD k 0 ≤ cntUp nx cnt p y := by
  induction p with
  | zero => exact absurd hk (Nat.not_lt_zero _)
  | succ p ih =>
    rw [cntUp_succ]
    by_cases e : k = p
    · subst e
      rw [if_pos hy]
      omega
    · have := ih (by omega)
      split
      · omega
      · exact this
/-- Behind p places. -/
structure MI (mx : Nat) (nx : Nat → List Nat) (n : Nat) (s1 : List Bool) (p : Nat) (s : List Bool) (cnt : List Nat) : Prop where
  sl : s.length = n
  cl : cnt.length = n
  up : ∀ x, s1.getD x false = true → s.getD x false = true
  new : ∀ x, p ≤ x → s.getD x false = s1.getD x false ∧ cnt.getD x 0 = 0
  op : ∀ x, x < p → openB s x = true → cnt.getD x 0 = cntUp nx cnt x x ∧ cnt.getD x 0 ≤ mx
  shut : ∀ x, openB s x = false → cnt.getD x 0 = 0
theorem zero_at (n x : Nat) : (List.replicate n 0).getD x 0 = 0 := by
  rw [List.getD_eq_getElem?_getD, List.getElem?_replicate]
  split <;> rfl
theorem MI.start (hl : s.length = n) : MI mx nx n s 0 s (List.replicate n 0) :=
  ⟨hl, by simp, fun _ h => h, fun x _ => ⟨rfl, zero_at n x⟩, fun x hx => absurd hx (Nat.not_lt_zero _), fun x _ => zero_at n x⟩
theorem open_set {s : List Bool} {k x : Nat} (hk : k < s.length) : openB (s.set k true) x = if k = x then false else openB s x := by
  unfold openB
  rw [getB_set _ _ _ _ hk]
  by_cases e : k = x
  · rw [if_pos e, if_pos e]; simp
  · rw [if_neg e, if_neg e]
theorem MI.step {s1 : List Bool} {cnt : List Nat} {p : Nat} (h : MI mx nx n s1 p s cnt) (hp : p < n) : MI mx nx n s1 (p + 1) (stepM mx nx (s, cnt) p).1 (stepM mx nx (s, cnt) p).2 := by
  have hps : p < s.length := by rw [h.sl]; exact hp
  have hpc : p < cnt.length := by rw [h.cl]; exact hp
  unfold stepM
  by_cases ho : openB s p = true
  · rw [if_pos ho]
    by_cases hm : mx < cntUp nx cnt p p
    · simp only [if_pos hm]
      refine ⟨by rw [List.length_set, h.sl], h.cl, fun x hx => ?_, fun x hx => ?_, fun x hx hox => ?_, fun x hx => ?_⟩
      · rw [getB_set _ _ _ _ hps]
        split
        · rfl
        · exact h.up x hx
      · rw [getB_set _ _ _ _ hps, if_neg (by omega)]
        exact h.new x (by omega)
      · rw [open_set hps] at hox
        split at hox
        · cases hox
        · exact h.op x (by omega) hox
      · rw [open_set hps] at hx
        split at hx
        · rename_i e; subst e; exact (h.new p (Nat.le_refl _)).2
        · exact h.shut x hx
    · simp only [if_neg hm]
      have hc : ∀ x, (cnt.set p (cntUp nx cnt p p)).getD x 0 = if p = x then cntUp nx cnt p p else cnt.getD x 0 := fun x => getD_set _ _ _ _ hpc
      have hcu : ∀ x y, x ≤ p → cntUp nx (cnt.set p (cntUp nx cnt p p)) x y = cntUp nx cnt x y := fun x y hx => cntUp_congr x y fun k hk => by rw [hc, if_neg (by omega)]
      refine ⟨h.sl, by rw [List.length_set, h.cl], h.up, fun x hx => ⟨(h.new x (by omega)).1, by rw [hc, if_neg (by omega)]; exact (h.new x (by omega)).2⟩, fun x hx hox => ?_, fun x hx => ?_⟩
      · rw [hc, hcu x x (by omega)]
        by_cases e : p = x
        · subst e
          rw [if_pos rfl]
          exact ⟨rfl, by omega⟩
        · rw [if_neg e]
          exact h.op x (by omega) hox
      · rw [hc, if_neg (by intro e; subst e; rw [ho] at hx; cases hx)]
        exact h.shut x hx
  · have ho' : openB s p = false := by simpa using ho
    simp only [if_neg ho]
    refine ⟨h.sl, h.cl, h.up, fun x hx => h.new x (by omega), fun x hx hox => ?_, h.shut⟩
    by_cases e : x = p
    · subst e; rw [ho'] at hox; cases hox
    · exact h.op x (by omega) hox
theorem runM_inv {s1 : List Bool} (hl : s1.length = n) (k : Nat) (hk : k ≤ n) : MI mx nx n s1 k (runM mx nx n s1 k).1 (runM mx nx n s1 k).2 := by
  induction k with
  | zero => exact MI.start hl
  | succ k ih =>
    rw [runM_succ]
    exact (ih (by omega)).step (by omega)
theorem lg_few {op : Nat → Bool} (hf : ∀ x y, op x = true → op y = true → y ∈ nx x → x < y) (hx : ∀ x y, y ∈ nx x → y < n) (r x : Nat) (hxn : x ≤ n) : lg nx op r x + x ≤ n + 0 ∨ (op x = true ∧ x = n) := by
  induction r generalizing x with
  | zero => left; simp [lg]; exact hxn
  | succ r ih =>
    by_cases ho : op x = true
    · by_cases e : x = n
      · exact .inr ⟨ho, e⟩
      · left
        unfold lg
        rw [if_pos ho]
        have : (nx x).foldl (fun a k => max a (1 + lg nx op r k)) 1 ≤ n - x := by
          rw [foldmax_le (f := fun k => 1 + lg nx op r k)]
          refine ⟨by omega, fun y hy => ?_⟩
          have hyn := hx x y hy
          cases hoy : op y with
          | false => rw [lg_closed hoy]; omega
          | true =>
            have h1 := hf x y ho hoy hy
            rcases ih y (by omega) with h2 | h2
            · omega
            · omega
        omega
    · left
      rw [lg_closed (by simpa using ho)]
      omega
/-- Where all that is open goes to greater places, and counts are at most mx, the gap is. -/
theorem gap_few {s1 : List Bool} {cnt : List Nat} (h : MI mx nx n s1 n s cnt) (hx : ∀ x y, y ∈ nx x → y < n) (hf : ∀ x y, x < n → openB s x = true → openB s y = true → y ∈ nx x → x < y) :
    (gapG n nx (openB s)).2 = true ∧ (gapG n nx (openB s)).1 ≤ mx := by
  have key : ∀ r x, x < n → openB s x = true → cnt.getD x 0 + lg nx (openB s) r x ≤ mx + 1 := by
    intro r
    induction r with
    | zero =>
      intro x hxn ho
      have := (h.op x hxn ho).2
      simp only [lg]
      omega
    | succ r ih =>
      intro x hxn ho
      have h1 := (h.op x hxn ho).2
      unfold lg
      rw [if_pos ho]
      have : (nx x).foldl (fun a k => max a (1 + lg nx (openB s) r k)) 1 ≤ mx + 1 - cnt.getD x 0 := by
        rw [foldmax_le (f := fun k => 1 + lg nx (openB s) r k)]
        refine ⟨by omega, fun y hy => ?_⟩
        have hyn := hx x y hy
        cases hoy : openB s y with
        | false => rw [lg_closed hoy]; omega
        | true =>
          have h2 := hf x y hxn ho hoy hy
          have h3 := ih y hyn hoy
          have h4 := (h.op y hyn hoy).1
          have h5 := cntUp_mem (cnt := cnt) h2 hy
          omega
      omega
  have hm : mostF (lg nx (openB s) (n + 1)) n ≤ mx := most_le.2 fun x hxn => by
    cases ho : openB s x with
    | false => rw [lg_closed ho]; exact Nat.zero_le _
    | true =>
      have h1 := key (n + 1) x hxn ho
      have h2 := (h.op x hxn ho).1
      have h3 := cntUp_pos (nx := nx) cnt x x
      omega
  have hn : mostF (lg nx (openB s) (n + 1)) n ≤ n := most_le.2 fun x hxn => by
    have hstrong : ∀ r x, x < n → lg nx (openB s) r x + x ≤ n := by
      intro r
      induction r with
      | zero => intro x hx; simp [lg]; omega
      | succ r ih =>
        intro x hxn
        cases ho : openB s x with
        | false => rw [lg_closed ho]; omega
        | true =>
          unfold lg
          rw [if_pos ho]
          have : (nx x).foldl (fun a k => max a (1 + lg nx (openB s) r k)) 1 ≤ n - x := by
            rw [foldmax_le (f := fun k => 1 + lg nx (openB s) r k)]
            refine ⟨by omega, fun y hy => ?_⟩
            have hyn := hx x y hy
            cases hoy : openB s y with
            | false => rw [lg_closed hoy]; omega
            | true =>
              have h1 := hf x y hxn ho hoy hy
              have h2 := ih y hyn
              omega
          omega
    have := hstrong (n + 1) x hxn
    omega
  unfold gapG
  rw [if_neg (by omega)]
  exact ⟨rfl, hm⟩
/-- Marked again, the places stay. -/
theorem run_again {s1 : List Bool} {cnt : List Nat} (h : MI mx nx n s1 n s cnt) (k : Nat) (hk : k ≤ n) : (runM mx nx n s k).1 = s ∧ ∀ x, (runM mx nx n s k).2.getD x 0 = if x < k then cnt.getD x 0 else 0 := by
  induction k with
  | zero => exact ⟨rfl, fun x => zero_at n x⟩
  | succ k ih =>
    obtain ⟨h1, h2⟩ := ih (by omega)
    have hI := runM_inv (mx := mx) (nx := nx) (s1 := s) h.sl k (by omega)
    have hlen := hI.cl
    rw [runM_succ]
    obtain ⟨sk, ck, hsk⟩ : ∃ a b, runM mx nx n s k = (a, b) := ⟨_, _, rfl⟩
    rw [hsk] at h1 h2 hlen ⊢
    simp only at h1 h2 hlen
    subst h1
    unfold stepM
    have hcu : cntUp nx ck k k = cntUp nx cnt k k := cntUp_congr k k fun x hx => by rw [h2, if_pos hx]
    by_cases ho : openB sk k = true
    · obtain ⟨h3, h4⟩ := h.op k (by omega) ho
      simp only [if_pos ho]
      rw [hcu, if_neg (by omega)]
      refine ⟨rfl, fun x => ?_⟩
      show (ck.set k _).getD x 0 = _
      rw [getD_set _ _ _ _ (by omega), h2]
      by_cases e : k = x
      · subst e
        rw [if_pos rfl, if_pos (Nat.lt_succ_self _), h3]
      · rw [if_neg e]
        by_cases h5 : x < k
        · rw [if_pos h5, if_pos (by omega)]
        · rw [if_neg h5, if_neg (by omega)]
    · have ho' : openB sk k = false := by simpa using ho
      simp only [if_neg ho]
      refine ⟨trivial, fun x => ?_⟩
      rw [h2]
      by_cases e : x = k
      · subst e
        rw [if_neg (Nat.lt_irrefl _), if_pos (Nat.lt_succ_self _), h.shut x ho']
      · by_cases h5 : x < k
        · rw [if_pos h5, if_pos (by omega)]
        · rw [if_neg h5, if_neg (by omega)]
theorem headS_len (h : List Nat) (s : List Bool) : (headS s h).length = s.length := by
  induction h generalizing s with
  | nil => rfl
  | cons k h ih =>
    show (headS (if 0 < k then s.set k true else s) h).length = _
    rw [ih]
    split
    · exact List.length_set
    · rfl
theorem headS_up (h : List Nat) (s : List Bool) (x : Nat) (hx : s.getD x false = true) : (headS s h).getD x false = true := by
  induction h generalizing s with
  | nil => exact hx
  | cons k h ih =>
    refine ih (if 0 < k then s.set k true else s) ?_
    split
    · by_cases hk : k < s.length
      · rw [getB_set _ _ _ _ hk]
        split
        · rfl
        · exact hx
      · rw [List.set_eq_of_length_le (by omega)]
        exact hx
    · exact hx
theorem headS_mem {h : List Nat} {s : List Bool} {x : Nat} (hx : x ∈ h) (h0 : 0 < x) (hl : x < s.length) : (headS s h).getD x false = true := by
  induction h generalizing s with
  | nil => cases hx
  | cons k h ih =>
    rcases List.mem_cons.1 hx with rfl | h1
    · refine headS_up h (if 0 < x then s.set x true else s) x ?_
      rw [if_pos h0, getB_set _ _ _ _ hl, if_pos rfl]
    · refine ih (s := if 0 < k then s.set k true else s) h1 ?_
      split
      · rw [List.length_set]; exact hl
      · exact hl
theorem headS_same {h : List Nat} {s : List Bool} (hx : ∀ x ∈ h, 0 < x → s.getD x false = true) : headS s h = s := by
  induction h with
  | nil => rfl
  | cons k h ih =>
    show headS (if 0 < k then s.set k true else s) h = s
    have e : (if 0 < k then s.set k true else s) = s := by
      split
      · rename_i h0
        have hk := hx k (by simp) h0
        refine List.ext_getElem (by simp) fun i h1 h2 => ?_
        rw [List.getElem_set]
        split
        · rename_i e
          subst e
          have h3 : k < s.length := by simpa using h1
          rw [List.getD_eq_getElem?_getD, List.getElem?_eq_getElem h3] at hk
          exact hk.symm
        · rfl
      · rfl
    rw [e]
    exact ih (fun x hx' => hx x (by simp [hx']))
theorem mem_hd (nx : Nat → List Nat) (n : Nat) (y : Nat) : y ∈ srtN (hdL nx n) ↔ ∃ x, x < n ∧ y ∈ nx x ∧ y ≤ x := by
  rw [mem_srt]
  unfold hdL
  rw [List.mem_flatMap]
  constructor
  · rintro ⟨x, hx, hy⟩
    rw [List.mem_filter, decide_eq_true_eq] at hy
    exact ⟨x, List.mem_range.1 hx, hy.1, hy.2⟩
  · rintro ⟨x, hx, hy, hle⟩
    exact ⟨x, List.mem_range.2 hx, by rw [List.mem_filter, decide_eq_true_eq]; exact ⟨hy, hle⟩⟩
end
/-- The truths that were there. -/
def safe0 (f : Fn) : List Bool := (List.range f.code.length).map fun i => f.safe.getD i false
def hds (f : Fn) : List Nat := srtN (hdL (nxN f.code) f.code.length)
def head1 (f : Fn) : List Bool := headS (safe0 f) (hds f)
def runF (mx : Nat) (f : Fn) (k : Nat) : List Bool × List Nat := runM mx (nxN f.code) f.code.length (head1 f) k
/-- A function, marked. -/
def markF (mx : Nat) (f : Fn) : Fn := ⟨f.code, (runF mx f f.code.length).1⟩
/-- How many more are safe. -/
def moreF (mx : Nat) (f : Fn) : Int := ((markF mx f).safe.count true : Int) - ((safe0 f).count true : Int)
theorem safe0_len (f : Fn) : (safe0 f).length = f.code.length := by simp [safe0]
theorem safe0_at (f : Fn) {k : Nat} (h : k < f.code.length) : (safe0 f).getD k false = f.safe.getD k false := by simp [safe0, h]
theorem safe0_same {f : Fn} (h : f.safe.length = f.code.length) : safe0 f = f.safe := by
  refine List.ext_getElem (by rw [safe0_len, h]) fun i h1 h2 => ?_
  simp [safe0, h2]
theorem head1_len (f : Fn) : (head1 f).length = f.code.length := by unfold head1; rw [headS_len, safe0_len]
theorem runF_inv (mx : Nat) (f : Fn) (k : Nat) (hk : k ≤ f.code.length) : MI mx (nxN f.code) f.code.length (head1 f) k (runF mx f k).1 (runF mx f k).2 := runM_inv (head1_len f) k hk
theorem mark_code (mx : Nat) (f : Fn) : (markF mx f).code = f.code := rfl
theorem mark_len (mx : Nat) (f : Fn) : (markF mx f).safe.length = f.code.length := (runF_inv mx f _ (Nat.le_refl _)).sl
theorem mark_up (mx : Nat) (f : Fn) (k : Nat) (hk : k < f.code.length) (h : f.safe.getD k false = true) : (markF mx f).safe.getD k false = true :=
  (runF_inv mx f _ (Nat.le_refl _)).up k (headS_up _ _ _ (by rw [safe0_at f hk]; exact h))
theorem mark_head (mx : Nat) (f : Fn) (k : Nat) (hk : k ∈ hds f) (h0 : 0 < k) : (markF mx f).safe.getD k false = true := by
  obtain ⟨x, hx, hy, -⟩ := (mem_hd (nxN f.code) f.code.length k).1 hk
  exact (runF_inv mx f _ (Nat.le_refl _)).up k (headS_mem hk h0 (by rw [safe0_len]; exact nx_lt hy))
theorem mark_mark (mx : Nat) (f : Fn) : markF mx (markF mx f) = markF mx f := by
  have h0 : safe0 (markF mx f) = (markF mx f).safe := safe0_same (mark_len mx f)
  have h1 : head1 (markF mx f) = (markF mx f).safe := by
    unfold head1
    rw [h0]
    exact headS_same fun x hx h => mark_head mx f x hx h
  have h2 : runF mx (markF mx f) f.code.length = runM mx (nxN f.code) f.code.length (markF mx f).safe f.code.length := by
    unfold runF
    rw [h1]
    rfl
  have h3 := (run_again (runF_inv mx f _ (Nat.le_refl _)) f.code.length (Nat.le_refl _)).1
  show (⟨f.code, (runF mx (markF mx f) f.code.length).1⟩ : Fn) = _
  rw [h2]
  show (⟨f.code, _⟩ : Fn) = ⟨f.code, _⟩
  rw [show (markF mx f).safe = (runF mx f f.code.length).1 from rfl, h3]
theorem more_again (mx : Nat) (f : Fn) : moreF mx (markF mx f) = 0 := by
  unfold moreF
  rw [mark_mark, safe0_same (mark_len mx f)]
  omega
theorem mark_gap (mx : Nat) (f : Fn) : (gapG f.code.length (nxN f.code) (openB (markF mx f).safe)).2 = true ∧ (gapG f.code.length (nxN f.code) (openB (markF mx f).safe)).1 ≤ mx :=
  gap_few (runF_inv mx f _ (Nat.le_refl _)) (fun x y hy => nx_lt hy) fun x y hxn ho hoy hy => by
    rcases Nat.lt_or_ge x y with h | h
    · exact h
    · have hh : y ∈ hds f := (mem_hd _ _ _).2 ⟨x, hxn, hy, h⟩
      have hoy' : openB (markF mx f).safe y = true := hoy
      unfold openB at hoy'
      rw [Bool.and_eq_true, decide_eq_true_eq] at hoy'
      have := mark_head mx f y hh hoy'.1
      rw [this] at hoy'
      cases hoy'.2
theorem count_up {u v : List Bool} (hl : u.length = v.length) (h : ∀ x, u.getD x false = true → v.getD x false = true) : u.count true ≤ v.count true := by
  induction u generalizing v with
  | nil => exact Nat.zero_le _
  | cons a u ih =>
    cases v with
    | nil => cases hl
    | cons b v =>
      have h1 := ih (v := v) (by simpa using hl) (fun x hx => by have := h (x + 1) (by simpa using hx); simpa using this)
      have h2 := h 0
      simp only [List.getD_cons_zero] at h2
      simp only [List.count_cons, beq_iff_eq]
      cases a <;> cases b <;> simp_all <;> omega
theorem more_nat (mx : Nat) (f : Fn) : 0 ≤ moreF mx f ∧ moreF mx f ≤ f.code.length := by
  have h1 : (safe0 f).count true ≤ (markF mx f).safe.count true := count_up (by rw [safe0_len, mark_len]) fun x hx => by
    rcases Nat.lt_or_ge x f.code.length with h | h
    · exact mark_up mx f x h (by rw [← safe0_at f h]; exact hx)
    · rw [getB_big (by rw [safe0_len]; exact h)] at hx; cases hx
  have h2 := List.count_le_length (a := true) (l := (markF mx f).safe)
  rw [mark_len] at h2
  unfold moreF
  omega
theorem safeB_n (ss : List Bool) (k : Nat) : safeB ss (k : Int) = ss.getD k false := by simp [safeB]
theorem place_mark {mx : Nat} {f : Fn} {funcs : Int} {k : Nat} (hl : f.code.length = f.safe.length) (h : placeAt f funcs k = 0) : placeAt (markF mx f) funcs k = 0 := by
  unfold placeAt placeF at h ⊢
  show (if checkF (f.code.getD k noIns).op (f.code.getD k noIns).a (f.code.getD k noIns).b (f.code.getD k noIns).c (f.code.getD k noIns).n f.code.length funcs ≠ 0 then _ else if opWaits (f.code.getD k noIns).op && !(safeB (markF mx f).safe k && safeB (markF mx f).safe (k + 1)) then 10 else 0) = 0
  split at h
  · rename_i hc
    exact absurd h hc
  · rename_i hc
    rw [if_neg hc]
    split at h
    · cases h
    · rename_i hw
      rw [if_neg]
      intro h2
      apply hw
      rw [Bool.and_eq_true] at h2 ⊢
      refine ⟨h2.1, ?_⟩
      have h3 := h2.2
      rw [Bool.not_eq_true', Bool.and_eq_false_iff] at h3 ⊢
      have hup : ∀ j : Nat, safeB (markF mx f).safe (j : Int) = false → safeB f.safe (j : Int) = false := fun j hj => by
        rw [safeB_n] at hj ⊢
        cases e : f.safe.getD j false with
        | false => rfl
        | true =>
          rcases Nat.lt_or_ge j f.code.length with h4 | h4
          · rw [mark_up mx f j h4 e] at hj; cases hj
          · rw [getB_big (by omega)] at e; cases e
      rcases h3 with h3 | h3
      · exact .inl (hup k h3)
      · exact .inr (hup (k + 1) h3)
theorem fn_ok_parts {f : Fn} {funcs : Int} (h : (fnF f funcs).2 = 0) : f.code.length ≠ 0 ∧ ¬ 64 < f.code.length ∧ f.code.length = f.safe.length ∧ (∀ k, k < f.code.length → placeAt f funcs k = 0) ∧ opEnds (f.code.getD (f.code.length - 1) noIns).op = true := by
  unfold fnF at h
  split at h
  · cases h
  · rename_i h0
    split at h
    · cases h
    · rename_i h64
      split at h
      · cases h
      · rename_i hs
        cases hb : badPlace f funcs with
        | some k =>
          rw [hb] at h
          have := List.find?_some hb
          simp only [bne_iff_ne, ne_eq] at this
          exact absurd h this
        | none =>
          rw [hb] at h
          simp only at h
          refine ⟨h0, h64, by omega, fun k hk => ?_, ?_⟩
          · have := (List.find?_eq_none.1 hb) k (List.mem_range.2 hk)
            simpa using this
          · split at h
            · assumption
            · cases h
theorem fn_mark {mx : Nat} {f : Fn} {funcs : Int} (h : (fnF f funcs).2 = 0) : (fnF (markF mx f) funcs).2 = 0 := by
  obtain ⟨h0, h64, hs, hp, he⟩ := fn_ok_parts h
  rw [fnF_none (f := markF mx f) h0 h64 (by rw [mark_len]; rfl) (fun i hi => place_mark hs (hp i hi))]
  show (if opEnds (f.code.getD (f.code.length - 1) noIns).op then ((-1 : Int), (0 : Int)) else _).2 = 0
  rw [if_pos he]
theorem check_parts {fs : List Fn} (h : (checkP fs).2.2 = 0) : fs.length ≠ 0 ∧ ¬ 16 < fs.length ∧ ∀ i, i < fs.length → (fnAt fs i).2 = 0 := by
  unfold checkP at h
  split at h
  · cases h
  · rename_i h0
    split at h
    · cases h
    · rename_i h16
      cases hb : badFn fs with
      | some k =>
        rw [hb] at h
        have := List.find?_some hb
        simp only [bne_iff_ne, ne_eq] at this
        exact absurd h this
      | none =>
        refine ⟨h0, h16, fun i hi => ?_⟩
        have := (List.find?_eq_none.1 hb) i (List.mem_range.2 hi)
        simpa using this
def markP (mx : Nat) (fs : List Fn) : List Fn := fs.map (markF mx)
theorem check_mark {mx : Nat} {fs : List Fn} (h : (checkP fs).2.2 = 0) : (checkP (markP mx fs)).2.2 = 0 := by
  obtain ⟨h0, h16, hf⟩ := check_parts h
  have hl : (markP mx fs).length = fs.length := by simp [markP]
  rw [checkP_none (by rw [hl]; exact h0) (by rw [hl]; exact h16) (fun i hi => ?_)]
  rw [hl] at hi
  have h1 := hf i hi
  unfold fnAt at h1 ⊢
  have e1 : fs.getD i noFn = fs[i] := by simp [hi]
  have e2 : (markP mx fs).getD i noFn = markF mx fs[i] := by simp [markP, hi]
  rw [e1] at h1
  rw [e2, hl]
  exact fn_mark h1
theorem markP_mark (mx : Nat) (fs : List Fn) : markP mx (markP mx fs) = markP mx fs := by
  unfold markP
  rw [List.map_map]
  exact List.map_congr_left fun f _ => mark_mark mx f
/-- How many more, in all. -/
def allM (mx : Nat) (fs : List Fn) : Int := fs.foldl (fun a f => a + moreF mx f) 0
theorem fold_more (mx : Nat) (fs : List Fn) (a : Int) : fs.foldl (fun a f => a + moreF mx (markF mx f)) a = a := by
  induction fs generalizing a with
  | nil => rfl
  | cons f fs ih => rw [List.foldl_cons, more_again, Int.add_zero, ih]
theorem all_again (mx : Nat) (fs : List Fn) : allM mx (markP mx fs) = 0 := by
  unfold allM markP
  rw [List.foldl_map]
  exact fold_more mx fs 0
end Go.Proofs.YtfgaonkoaolffaaDoor

/-
  The law's task: a task of an act, both ways (printed by wip/gentas.py).
-/
import Derived.Test.YthnhjhlpimgkiaaRtk14
import Derived.Test.YthnhjhlpimgkiaaTia14
import Derived.Test.YthnhjhlpimgkiaaPtt14
import Derived.Test.YthnhjhlpimgkiaaSchE
import Derived.Test.YthnhjhlpimgkiaaRowl
namespace Go.Proofs.Ythnhjhlpimgkiaa
open Go.RowKit
theorem B14.step {w w' : World} {gr gc gl kc : Nat} {ex : List Value} {size : Nat} {xs : List Int} {cnt : Nat} (h : B14 w gr gc gl kc ex size xs cnt) (hb : Below w.heap.size w w') : B14 w' gr gc gl kc ex size xs cnt :=
  ⟨h.cells.below hb, h.ring.below hb h.ring.lt, h.n2, h.fits, h.few⟩
theorem results_2cell {P : Program} {fn : Func} {p q : Tmp} {ty : TypeId} (h : fn.results = #[.tmp q, .cell p ty]) (tmps : Array Value) (w : World) (g : Nat) (t : TypeId) (cs : Array Value) (fr : Nat × Nat) (d : TypeDesc)
    (hp : tmps.getD p undef = .pointer (some ⟨g, 0, none⟩)) (hg : w.heap[g]? = some (.cells cs t fr))
    (hu : P.underlying ty = some d) (hd : (match d with | .struct _ | .array _ _ => true | _ => false) = true) (hi : (P.info? ty).map (·.size) = some cs.size) :
    (results fn tmps).run P w = .ok (.tuple #[tmps.getD q undef, .agg cs]) w := by
  have hp' : tmps[p]?.getD undef = .pointer (some ⟨g, 0, none⟩) := by simpa using hp
  simp [results, h, hp', asAddr, run_loadVar_row w g t ty cs fr d hg hu hd hi]
theorem M14.mv {w w' : World} {L : List Nat} {gt gr gc gl kc size cnt : Nat} {ex : List Value} {xs : List Int} {T : Tk} (M : M14 w gt gr gc gl kc ex size xs cnt T) (hm : Mv L w w') (h : gt ∉ L ∧ gr ∉ L ∧ gc ∉ L ∧ gl ∉ L) : M14 w' gt gr gc gl kc ex size xs cnt T :=
  ⟨M.cells.mv hm h.2.2.1 h.2.2.2, hm.blk M.ring h.2.1, hm.blk M.task h.1, M.n1, M.n2, M.fits, M.few, M.ok⟩
theorem mv_setRow (w : World) (g : Nat) (cs : Array Value) : Mv [g] w (w.setRow g cs) :=
  ⟨rfl, rfl, rfl, by rw [setRow_size]; exact Nat.le_refl _, fun i _ hne => heap_setRow w g cs i (by simpa using hne)⟩
/-- Is it a struct? -/
def isSt : Option TypeDesc → Bool
  | some (.struct _) => true
  | _ => false
theorem st_of {o : Option TypeDesc} (h : isSt o = true) : ∃ fs, o = some (.struct fs) := by
  cases o with
  | none => cases h
  | some d => cases d <;> first | exact ⟨_, rfl⟩ | cases h
theorem Try.isRt : isSt (Try.prog.underlying 44) = true := by kernel_rfl
theorem Try.underlyingRt : ∃ fs, Try.prog.underlying 44 = some (.struct fs) := st_of Try.isRt
theorem rtArr_one (R : Rt) (A C : Option Addr) (n c m e : Nat) : (rtArr R (.slice A n c) (.slice C m e)).all (·.oneCell') = true := by
  rw [Array.all_eq_true_iff_forall_mem]
  intro u hu
  simp only [rtArr, List.mem_toArray, List.mem_cons, List.not_mem_nil, or_false] at hu
  rcases hu with rfl | rfl | rfl | rfl | rfl | rfl | rfl | rfl | rfl | rfl <;> rfl
theorem Try.infoRt : (Try.prog.info? 44).map (·.size) = some 10 := by kernel_rfl
/-- What the law's task gives. -/
def TaskOut (m : Nat) (w : World) (gr gc gl kc : Nat) (ex : List Value) (size : Nat) (xs : List Int) (cnt : Nat) (P : Pt) (R : Rt) (e : Ending) (w' : World) : Prop :=
  ∃ gt, e = .returned (.tuple #[.pointer (some ⟨gt, 0, none⟩), .agg (rtArr R (.slice none 0 0) (.slice none 0 0))]) ∧ m ≤ gt ∧ M14 w' gt gr gc gl kc ex size xs cnt (tk P none 0 none 0 0) ∧ Below m w w'
/-- The block of a result that has no value yet. -/
def z44 : Array Value := #[.int .i64 0, .int .u8 0, .int .i64 0, .int .i64 0, .int .i64 0, .int .i64 0, .int .i64 0, .slice none 0 0, .slice none 0 0, .int .i64 0]
theorem task_out {m gt : Nat} {w W w' : World} {gr gc gl kc : Nat} {ex : List Value} {size : Nat} {xs : List Int} {cnt : Nat} {T : Tk} (hB : Below m w W) (hm : m + 3 ≤ W.heap.size) (hgt : gt = m + 2) (hr : gr < m ∧ gc < m ∧ gl < m) (M : M14 W gt gr gc gl kc ex size xs cnt T) (cs : Array Value) (h' : w' = W.setRow (m + 1) cs) : M14 w' gt gr gc gl kc ex size xs cnt T ∧ Below m w w' := by
  subst h'
  exact ⟨M.mv (mv_setRow _ _ _) (by simp; omega), below_setRow hB (by omega) (by omega) _⟩
theorem task_0 {w : World} {gr gc gl kc : Nat} {ex : List Value} {size : Nat} {xs : List Int} {cnt : Nat} (h : B14 w gr gc gl kc ex size xs cnt) (g : Int) :
    Calls Try.prog 19 #[.pointer (some ⟨gr, 0, none⟩), .agg #[.int .i64 0, .int .i64 g]] w fun e w' => TaskOut w.heap.size w gr gc gl kc ex size xs cnt (actP 0 g) (rput g false) e w' := by
  obtain ⟨m, HM⟩ : ∃ m, Hid (m = w.heap.size) := ⟨_, Lib.hid rfl⟩
  obtain ⟨W, HW⟩ : ∃ W, Hid (W = (w.alloc (.cells #[.int .i64 0, .int .i64 g] 39)).alloc (.cells z44 44)) := ⟨_, Lib.hid rfl⟩
  have hbw : Below m w W := by rw [HW.out, HM.out]; exact ((Below.refl _ w).alloc (Nat.le_refl _) _).alloc (by simp) _
  have HB := Lib.hid (h.step (show Below w.heap.size w W by rw [← HM.out]; exact hbw))
  have HBW := Lib.hid hbw
  have HR := Lib.hid (show gr < m ∧ gc < m ∧ gl < m by rw [HM.out]; exact ⟨h.ring.lt, h.cells.head.lt, h.cells.row.lt⟩)
  have hsz : W.heap.size = m + 2 := by rw [HW.out, World.size_alloc, World.size_alloc, HM.out]
  have HA := Lib.hid (show Blk W m 39 #[.int .i64 0, .int .i64 g] by rw [HW.out, HM.out]; exact (Blk.new _ _ _).alloc _)
  have HZ := Lib.hid (show Blk W (m + 1) 44 z44 by
    have := Blk.new (w.alloc (.cells #[.int .i64 0, .int .i64 g] 39)) 44 z44
    rw [World.size_alloc, ← HM.out] at this
    rw [HW.out]
    exact this)
  have hdr : Below W.heap.size W W.drew := (Below.refl _ W).drew
  have HD := Lib.hid (HB.out.step hdr)
  have HP := Lib.hid (put_any HD.out g false)
  have HSD := Lib.hid (show W.drew.heap.size = m + 2 from hsz)
  rw [HSD.out] at HP
  have HSZ := Lib.hid hsz
  have a1 := (HA.out.cell 1).trans rfl
  have F1 : ∀ w', SB W w' → w'.cell? ⟨m, 1, none⟩ = some (.int .i64 g) := fun w' h => h.cell HA.out a1
  rw [← HM.out]
  clear h hbw hsz a1
  go_enter Try.func19, Try.ntmps19
  go_wp2_with fail
  rw [show (w.alloc (.cells #[.int .i64 0, .int .i64 g] 39)).alloc (.cells #[.int .i64 0, .int .u8 0, .int .i64 0, .int .i64 0, .int .i64 0, .int .i64 0, .int .i64 0, .slice none 0 0, .slice none 0 0, .int .i64 0] 44) = W from HW.out.symm, ← HM.out]
  refine region_schE (SB W) [([0, 1, 2, 4, 5], 3), ([], 6)] [7] 8 (by kernel_rfl) (by kernel_rfl) (by kernel_rfl) (fun _ _ d _ _ h => by cases d <;> exact h) (Below.refl _ _).drew ?_
  (try simp only [Act.put, List.setIfInBounds_toArray, List.set_cons_zero, List.set_cons_succ]); refine schE_seg ?_; simp only [pickOps, List.getElem?_toArray, List.getElem?_cons_zero, List.getElem?_cons_succ]; (repeat (first | go_big_quiet_skip | (go_big_quiet_want; first | (go_big_quiet_op; first | go_big_quiet_on | ((first | with_reducible refine ⟨_, fun _ _ => rfl, ?_⟩); go_big_quiet_on)) | (simp (contextual := true) [go_sem, F1]; with_reducible refine ⟨_, fun _ _ => rfl, ?_⟩; go_big_quiet_on)))); refine wpQuiet_nil ?_
  go_wp2_with fail
  refine HP.out.mono ?_
  rintro e w3 ⟨rfl, hM3, hB3⟩
  have HM3 := Lib.hid hM3
  have HB3 := Lib.hid (show Below m w w3 from (HBW.out.drew).trans (hB3.mono (by have := HSD.out; omega)))
  have HS3 := Lib.hid (show m + 3 ≤ w3.heap.size by have := HM3.out.task.lt; omega)
  have HZ3 := Lib.hid (show Blk w3 (m + 1) 44 z44 from HZ.out.drew.below hB3 (by have := HSD.out; omega))
  have HBW3 := Lib.hid (show SB W w3 from hdr.trans (hB3.mono (by have := HSD.out; have := HSZ.out; omega)))
  clear hM3 hB3
  go_wp2_with fail
  refine ⟨SB W, HBW3.out, fun _ h => h, ?_⟩
  (try simp only [Act.put, List.setIfInBounds_toArray, List.set_cons_zero, List.set_cons_succ]); refine schE_seg ?_; simp only [pickOps, List.getElem?_toArray, List.getElem?_cons_zero, List.getElem?_cons_succ]; (repeat (first | go_big_quiet_skip | (go_big_quiet_want; first | (go_big_quiet_op; first | go_big_quiet_on | ((first | with_reducible refine ⟨_, fun _ _ => rfl, ?_⟩); go_big_quiet_on)) | (simp (contextual := true) [go_sem, F1]; with_reducible refine ⟨_, fun _ _ => rfl, ?_⟩; go_big_quiet_on)))); refine wpQuiet_nil ?_
  go_wp2_with fail
  refine (rput_any g false _).mono ?_
  rintro e w4 ⟨rfl, hB4⟩
  have HM4 := Lib.hid (HM3.out.step hB4)
  have HB4 := Lib.hid (HB3.out.trans (hB4.mono (by have := HS3.out; omega)))
  have HS4 := Lib.hid (show m + 3 ≤ w4.heap.size from Nat.le_trans HS3.out hB4.size)
  have HZ4 := Lib.hid (show Blk w4 (m + 1) 44 z44 from HZ3.out.below hB4 (by have := HS3.out; omega))
  have HBW4 := Lib.hid (show SB W w4 from HBW3.out.trans (hB4.mono (by have := HS3.out; have := HSZ.out; omega)))
  clear hB4
  go_wp2_with fail
  refine ⟨SB W, HBW4.out, fun _ h => h, ?_⟩
  (try simp only [Act.put, List.setIfInBounds_toArray, List.set_cons_zero, List.set_cons_succ]); refine schE_last ?_; simp only [pickOps, List.getElem?_toArray, List.getElem?_cons_zero, List.getElem?_cons_succ]; (repeat (first | go_big_quiet_skip | (go_big_quiet_want; first | (go_big_quiet_op; first | go_big_quiet_on | ((first | with_reducible refine ⟨_, fun _ _ => rfl, ?_⟩); go_big_quiet_on)) | (simp (contextual := true) [go_sem, F1]; with_reducible refine ⟨_, fun _ _ => rfl, ?_⟩; go_big_quiet_on)))); refine wpQuiet_nil ?_
  obtain ⟨fs, hfs⟩ := Try.underlyingRt
  have HFS := Lib.hid hfs
  clear hfs F1
  go_wp2_with (refine wpList_store_row rfl 44 _ _ rfl (m + 1) (rtArr (rput g false) (.slice none 0 0) (.slice none 0 0)) rfl rfl 44 z44 HZ4.out Try.infoRt rfl (rtArr_one _ _ _ _ _ _ _) ?_)
  have HO := task_out HB4.out (by have := HS4.out; omega) rfl HR.out HM4.out (rtArr (rput g false) (.slice none 0 0) (.slice none 0 0)) rfl
  refine bodyPost_ret (results_2cell Try.results19 _ _ (m + 1) 44 _ (0, 0) _ rfl (HZ4.out.setRow _) HFS.out rfl Try.infoRt) rfl ?_
  refine ⟨m + 2, rfl, by omega, ?_, HO.2⟩
  have e : tk0 (putD g false) g = tk (actP 0 g) none 0 none 0 0 := by
    unfold putD tk0 tk actP
    by_cases h : g < 1
    · simp [h]
    · simp [h, Ac.fn]
  rw [← e]
  exact HO.1
theorem task_1 {w : World} {gr gc gl kc : Nat} {ex : List Value} {size : Nat} {xs : List Int} {cnt : Nat} (h : B14 w gr gc gl kc ex size xs cnt) (g : Int) :
    Calls Try.prog 19 #[.pointer (some ⟨gr, 0, none⟩), .agg #[.int .i64 1, .int .i64 g]] w fun e w' => TaskOut w.heap.size w gr gc gl kc ex size xs cnt (actP 1 g) (rput g true) e w' := by
  obtain ⟨m, HM⟩ : ∃ m, Hid (m = w.heap.size) := ⟨_, Lib.hid rfl⟩
  obtain ⟨W, HW⟩ : ∃ W, Hid (W = (w.alloc (.cells #[.int .i64 1, .int .i64 g] 39)).alloc (.cells z44 44)) := ⟨_, Lib.hid rfl⟩
  have hbw : Below m w W := by rw [HW.out, HM.out]; exact ((Below.refl _ w).alloc (Nat.le_refl _) _).alloc (by simp) _
  have HB := Lib.hid (h.step (show Below w.heap.size w W by rw [← HM.out]; exact hbw))
  have HBW := Lib.hid hbw
  have HR := Lib.hid (show gr < m ∧ gc < m ∧ gl < m by rw [HM.out]; exact ⟨h.ring.lt, h.cells.head.lt, h.cells.row.lt⟩)
  have hsz : W.heap.size = m + 2 := by rw [HW.out, World.size_alloc, World.size_alloc, HM.out]
  have HA := Lib.hid (show Blk W m 39 #[.int .i64 1, .int .i64 g] by rw [HW.out, HM.out]; exact (Blk.new _ _ _).alloc _)
  have HZ := Lib.hid (show Blk W (m + 1) 44 z44 by
    have := Blk.new (w.alloc (.cells #[.int .i64 1, .int .i64 g] 39)) 44 z44
    rw [World.size_alloc, ← HM.out] at this
    rw [HW.out]
    exact this)
  have hdr : Below W.heap.size W W.drew := (Below.refl _ W).drew
  have HD := Lib.hid (HB.out.step hdr)
  have HP := Lib.hid (put_any HD.out g true)
  have HSD := Lib.hid (show W.drew.heap.size = m + 2 from hsz)
  rw [HSD.out] at HP
  have HSZ := Lib.hid hsz
  have a1 := (HA.out.cell 1).trans rfl
  have F1 : ∀ w', SB W w' → w'.cell? ⟨m, 1, none⟩ = some (.int .i64 g) := fun w' h => h.cell HA.out a1
  rw [← HM.out]
  clear h hbw hsz a1
  go_enter Try.func19, Try.ntmps19
  go_wp2_with fail
  rw [show (w.alloc (.cells #[.int .i64 1, .int .i64 g] 39)).alloc (.cells #[.int .i64 0, .int .u8 0, .int .i64 0, .int .i64 0, .int .i64 0, .int .i64 0, .int .i64 0, .slice none 0 0, .slice none 0 0, .int .i64 0] 44) = W from HW.out.symm, ← HM.out]
  refine region_schE (SB W) [([0, 1, 2, 4, 5], 3), ([], 6)] [7] 8 (by kernel_rfl) (by kernel_rfl) (by kernel_rfl) (fun _ _ d _ _ h => by cases d <;> exact h) (Below.refl _ _).drew ?_
  (try simp only [Act.put, List.setIfInBounds_toArray, List.set_cons_zero, List.set_cons_succ]); refine schE_seg ?_; simp only [pickOps, List.getElem?_toArray, List.getElem?_cons_zero, List.getElem?_cons_succ]; (repeat (first | go_big_quiet_skip | (go_big_quiet_want; first | (go_big_quiet_op; first | go_big_quiet_on | ((first | with_reducible refine ⟨_, fun _ _ => rfl, ?_⟩); go_big_quiet_on)) | (simp (contextual := true) [go_sem, F1]; with_reducible refine ⟨_, fun _ _ => rfl, ?_⟩; go_big_quiet_on)))); refine wpQuiet_nil ?_
  go_wp2_with fail
  refine HP.out.mono ?_
  rintro e w3 ⟨rfl, hM3, hB3⟩
  have HM3 := Lib.hid hM3
  have HB3 := Lib.hid (show Below m w w3 from (HBW.out.drew).trans (hB3.mono (by have := HSD.out; omega)))
  have HS3 := Lib.hid (show m + 3 ≤ w3.heap.size by have := HM3.out.task.lt; omega)
  have HZ3 := Lib.hid (show Blk w3 (m + 1) 44 z44 from HZ.out.drew.below hB3 (by have := HSD.out; omega))
  have HBW3 := Lib.hid (show SB W w3 from hdr.trans (hB3.mono (by have := HSD.out; have := HSZ.out; omega)))
  clear hM3 hB3
  go_wp2_with fail
  refine ⟨SB W, HBW3.out, fun _ h => h, ?_⟩
  (try simp only [Act.put, List.setIfInBounds_toArray, List.set_cons_zero, List.set_cons_succ]); refine schE_seg ?_; simp only [pickOps, List.getElem?_toArray, List.getElem?_cons_zero, List.getElem?_cons_succ]; (repeat (first | go_big_quiet_skip | (go_big_quiet_want; first | (go_big_quiet_op; first | go_big_quiet_on | ((first | with_reducible refine ⟨_, fun _ _ => rfl, ?_⟩); go_big_quiet_on)) | (simp (contextual := true) [go_sem, F1]; with_reducible refine ⟨_, fun _ _ => rfl, ?_⟩; go_big_quiet_on)))); refine wpQuiet_nil ?_
  go_wp2_with fail
  refine (rput_any g true _).mono ?_
  rintro e w4 ⟨rfl, hB4⟩
  have HM4 := Lib.hid (HM3.out.step hB4)
  have HB4 := Lib.hid (HB3.out.trans (hB4.mono (by have := HS3.out; omega)))
  have HS4 := Lib.hid (show m + 3 ≤ w4.heap.size from Nat.le_trans HS3.out hB4.size)
  have HZ4 := Lib.hid (show Blk w4 (m + 1) 44 z44 from HZ3.out.below hB4 (by have := HS3.out; omega))
  have HBW4 := Lib.hid (show SB W w4 from HBW3.out.trans (hB4.mono (by have := HS3.out; have := HSZ.out; omega)))
  clear hB4
  go_wp2_with fail
  refine ⟨SB W, HBW4.out, fun _ h => h, ?_⟩
  (try simp only [Act.put, List.setIfInBounds_toArray, List.set_cons_zero, List.set_cons_succ]); refine schE_last ?_; simp only [pickOps, List.getElem?_toArray, List.getElem?_cons_zero, List.getElem?_cons_succ]; (repeat (first | go_big_quiet_skip | (go_big_quiet_want; first | (go_big_quiet_op; first | go_big_quiet_on | ((first | with_reducible refine ⟨_, fun _ _ => rfl, ?_⟩); go_big_quiet_on)) | (simp (contextual := true) [go_sem, F1]; with_reducible refine ⟨_, fun _ _ => rfl, ?_⟩; go_big_quiet_on)))); refine wpQuiet_nil ?_
  obtain ⟨fs, hfs⟩ := Try.underlyingRt
  have HFS := Lib.hid hfs
  clear hfs F1
  go_wp2_with (refine wpList_store_row rfl 44 _ _ rfl (m + 1) (rtArr (rput g true) (.slice none 0 0) (.slice none 0 0)) rfl rfl 44 z44 HZ4.out Try.infoRt rfl (rtArr_one _ _ _ _ _ _ _) ?_)
  have HO := task_out HB4.out (by have := HS4.out; omega) rfl HR.out HM4.out (rtArr (rput g true) (.slice none 0 0) (.slice none 0 0)) rfl
  refine bodyPost_ret (results_2cell Try.results19 _ _ (m + 1) 44 _ (0, 0) _ rfl (HZ4.out.setRow _) HFS.out rfl Try.infoRt) rfl ?_
  refine ⟨m + 2, rfl, by omega, ?_, HO.2⟩
  have e : tk0 (putD g true) g = tk (actP 1 g) none 0 none 0 0 := by
    unfold putD tk0 tk actP
    by_cases h : g < 1
    · simp [h]
    · simp [h, Ac.fn]
  rw [← e]
  exact HO.1
theorem task_2 {w : World} {gr gc gl kc : Nat} {ex : List Value} {size : Nat} {xs : List Int} {cnt : Nat} (h : B14 w gr gc gl kc ex size xs cnt) (g : Int) :
    Calls Try.prog 19 #[.pointer (some ⟨gr, 0, none⟩), .agg #[.int .i64 2, .int .i64 g]] w fun e w' => TaskOut w.heap.size w gr gc gl kc ex size xs cnt (actP 2 g) (rt0 1 97 0) e w' := by
  obtain ⟨m, HM⟩ : ∃ m, Hid (m = w.heap.size) := ⟨_, Lib.hid rfl⟩
  obtain ⟨W, HW⟩ : ∃ W, Hid (W = (w.alloc (.cells #[.int .i64 2, .int .i64 g] 39)).alloc (.cells z44 44)) := ⟨_, Lib.hid rfl⟩
  have hbw : Below m w W := by rw [HW.out, HM.out]; exact ((Below.refl _ w).alloc (Nat.le_refl _) _).alloc (by simp) _
  have HB := Lib.hid (h.step (show Below w.heap.size w W by rw [← HM.out]; exact hbw))
  have HBW := Lib.hid hbw
  have HR := Lib.hid (show gr < m ∧ gc < m ∧ gl < m by rw [HM.out]; exact ⟨h.ring.lt, h.cells.head.lt, h.cells.row.lt⟩)
  have hsz : W.heap.size = m + 2 := by rw [HW.out, World.size_alloc, World.size_alloc, HM.out]
  have HZ := Lib.hid (show Blk W (m + 1) 44 z44 by
    have := Blk.new (w.alloc (.cells #[.int .i64 2, .int .i64 g] 39)) 44 z44
    rw [World.size_alloc, ← HM.out] at this
    rw [HW.out]
    exact this)
  have HP := Lib.hid (get_any HB.out)
  rw [hsz] at HP
  have HSZ := Lib.hid hsz
  rw [← HM.out]
  clear h hbw hsz
  go_enter Try.func19, Try.ntmps19
  go_wp2_with fail
  rw [show (w.alloc (.cells #[.int .i64 2, .int .i64 g] 39)).alloc (.cells #[.int .i64 0, .int .u8 0, .int .i64 0, .int .i64 0, .int .i64 0, .int .i64 0, .int .i64 0, .slice none 0 0, .slice none 0 0, .int .i64 0] 44) = W from HW.out.symm, ← HM.out]
  refine HP.out.mono ?_
  rintro e w3 ⟨rfl, hM3, hB3⟩
  have HM3 := Lib.hid hM3
  have HB3 := Lib.hid (show Below m w w3 from HBW.out.trans (hB3.mono (by have := HSZ.out; omega)))
  have HS3 := Lib.hid (show m + 3 ≤ w3.heap.size by have := HM3.out.task.lt; omega)
  have HZ3 := Lib.hid (show Blk w3 (m + 1) 44 z44 from HZ.out.below hB3 (by have := HSZ.out; omega))
  clear hM3 hB3
  go_wp2_with fail
  refine (rget_any _).mono ?_
  rintro e w4 ⟨rfl, hB4⟩
  have HM4 := Lib.hid (HM3.out.step hB4)
  have HB4 := Lib.hid (HB3.out.trans (hB4.mono (by have := HS3.out; omega)))
  have HS4 := Lib.hid (show m + 3 ≤ w4.heap.size from Nat.le_trans HS3.out hB4.size)
  have HZ4 := Lib.hid (show Blk w4 (m + 1) 44 z44 from HZ3.out.below hB4 (by have := HS3.out; omega))
  clear hB4
  obtain ⟨fs, hfs⟩ := Try.underlyingRt
  have HFS := Lib.hid hfs
  clear hfs
  go_wp2_with (refine wpList_store_row rfl 44 _ _ rfl (m + 1) (rtArr (rt0 1 97 0) (.slice none 0 0) (.slice none 0 0)) rfl rfl 44 z44 HZ4.out Try.infoRt rfl (rtArr_one _ _ _ _ _ _ _) ?_)
  have HO := task_out HB4.out (by have := HS4.out; omega) rfl HR.out HM4.out (rtArr (rt0 1 97 0) (.slice none 0 0) (.slice none 0 0)) rfl
  refine bodyPost_ret (results_2cell Try.results19 _ _ (m + 1) 44 _ (0, 0) _ rfl (HZ4.out.setRow _) HFS.out rfl Try.infoRt) rfl ?_
  refine ⟨m + 2, rfl, by omega, ?_, HO.2⟩
  have e : tk0 (some 29) 0 = tk (actP 2 g) none 0 none 0 0 := by
    rfl
  rw [← e]
  exact HO.1
theorem task_3 {w : World} {gr gc gl kc : Nat} {ex : List Value} {size : Nat} {xs : List Int} {cnt : Nat} (h : B14 w gr gc gl kc ex size xs cnt) (k : Int) (k0 : k ≠ 0) (k1 : k ≠ 1) (k2 : k ≠ 2) (g : Int) :
    Calls Try.prog 19 #[.pointer (some ⟨gr, 0, none⟩), .agg #[.int .i64 k, .int .i64 g]] w fun e w' => TaskOut w.heap.size w gr gc gl kc ex size xs cnt (actP k g) (rt0 2 97 0) e w' := by
  have e0 : (k == 0) = false := by simpa using k0
  have e1 : (k == 1) = false := by simpa using k1
  have e2 : (k == 2) = false := by simpa using k2
  obtain ⟨m, HM⟩ : ∃ m, Hid (m = w.heap.size) := ⟨_, Lib.hid rfl⟩
  obtain ⟨W, HW⟩ : ∃ W, Hid (W = (w.alloc (.cells #[.int .i64 k, .int .i64 g] 39)).alloc (.cells z44 44)) := ⟨_, Lib.hid rfl⟩
  have hbw : Below m w W := by rw [HW.out, HM.out]; exact ((Below.refl _ w).alloc (Nat.le_refl _) _).alloc (by simp) _
  have HB := Lib.hid (h.step (show Below w.heap.size w W by rw [← HM.out]; exact hbw))
  have HBW := Lib.hid hbw
  have HR := Lib.hid (show gr < m ∧ gc < m ∧ gl < m by rw [HM.out]; exact ⟨h.ring.lt, h.cells.head.lt, h.cells.row.lt⟩)
  have hsz : W.heap.size = m + 2 := by rw [HW.out, World.size_alloc, World.size_alloc, HM.out]
  have HZ := Lib.hid (show Blk W (m + 1) 44 z44 by
    have := Blk.new (w.alloc (.cells #[.int .i64 k, .int .i64 g] 39)) 44 z44
    rw [World.size_alloc, ← HM.out] at this
    rw [HW.out]
    exact this)
  have HP := Lib.hid (grab_any HB.out)
  rw [hsz] at HP
  have HSZ := Lib.hid hsz
  rw [← HM.out]
  clear h hbw hsz
  go_enter Try.func19, Try.ntmps19
  go_wp2_with fail
  rw [show (w.alloc (.cells #[.int .i64 k, .int .i64 g] 39)).alloc (.cells #[.int .i64 0, .int .u8 0, .int .i64 0, .int .i64 0, .int .i64 0, .int .i64 0, .int .i64 0, .slice none 0 0, .slice none 0 0, .int .i64 0] 44) = W from HW.out.symm, ← HM.out]
  refine HP.out.mono ?_
  rintro e w3 ⟨rfl, hM3, hB3⟩
  have HM3 := Lib.hid hM3
  have HB3 := Lib.hid (show Below m w w3 from HBW.out.trans (hB3.mono (by have := HSZ.out; omega)))
  have HS3 := Lib.hid (show m + 3 ≤ w3.heap.size by have := HM3.out.task.lt; omega)
  have HZ3 := Lib.hid (show Blk w3 (m + 1) 44 z44 from HZ.out.below hB3 (by have := HSZ.out; omega))
  clear hM3 hB3
  go_wp2_with fail
  refine (rgrab_any _).mono ?_
  rintro e w4 ⟨rfl, hB4⟩
  have HM4 := Lib.hid (HM3.out.step hB4)
  have HB4 := Lib.hid (HB3.out.trans (hB4.mono (by have := HS3.out; omega)))
  have HS4 := Lib.hid (show m + 3 ≤ w4.heap.size from Nat.le_trans HS3.out hB4.size)
  have HZ4 := Lib.hid (show Blk w4 (m + 1) 44 z44 from HZ3.out.below hB4 (by have := HS3.out; omega))
  clear hB4
  obtain ⟨fs, hfs⟩ := Try.underlyingRt
  have HFS := Lib.hid hfs
  clear hfs
  go_wp2_with (refine wpList_store_row rfl 44 _ _ rfl (m + 1) (rtArr (rt0 2 97 0) (.slice none 0 0) (.slice none 0 0)) rfl rfl 44 z44 HZ4.out Try.infoRt rfl (rtArr_one _ _ _ _ _ _ _) ?_)
  have HO := task_out HB4.out (by have := HS4.out; omega) rfl HR.out HM4.out (rtArr (rt0 2 97 0) (.slice none 0 0) (.slice none 0 0)) rfl
  refine bodyPost_ret (results_2cell Try.results19 _ _ (m + 1) 44 _ (0, 0) _ rfl (HZ4.out.setRow _) HFS.out rfl Try.infoRt) rfl ?_
  refine ⟨m + 2, rfl, by omega, ?_, HO.2⟩
  have e : tk0 (some 30) 0 = tk (actP k g) none 0 none 0 0 := by
    unfold actP; rw [if_neg k0, if_neg k1, if_neg k2]; rfl
  rw [← e]
  exact HO.1
/-- The law's task, whatever the act. -/
theorem task_any {w : World} {gr gc gl kc : Nat} {ex : List Value} {size : Nat} {xs : List Int} {cnt : Nat} (h : B14 w gr gc gl kc ex size xs cnt) (k g : Int) :
    Calls Try.prog 19 #[.pointer (some ⟨gr, 0, none⟩), .agg #[.int .i64 k, .int .i64 g]] w fun e w' => TaskOut w.heap.size w gr gc gl kc ex size xs cnt (actP k g) (actR k g) e w' := by
  by_cases k0 : k = 0
  · subst k0
    exact task_0 h g
  · by_cases k1 : k = 1
    · subst k1
      exact task_1 h g
    · by_cases k2 : k = 2
      · subst k2
        exact task_2 h g
      · have e : actR k g = rt0 2 97 0 := by unfold actR; rw [if_neg k0, if_neg k1, if_neg k2]
        rw [e]
        exact task_3 h k k0 k1 k2 g
end Go.Proofs.Ythnhjhlpimgkiaa

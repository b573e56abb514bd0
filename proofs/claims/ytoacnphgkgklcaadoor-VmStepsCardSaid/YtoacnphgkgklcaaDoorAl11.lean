/-
  Chapter 11: contract of the law's own 'alive'. Condition: the table isa.rows.
-/
import Derived.Test.YtoacnphgkgklcaaDoorDo3
import Derived.Test.YtoacnphgkgklcaaDoorSchT
namespace Go.Proofs.YtoacnphgkgklcaaDoor
open Go.RowKit
def code3 : List Ins := [⟨1, 0, 0, 0, 5⟩, ⟨15, 0, 0, 0, 0⟩, ⟨14, 0, 0, 0, 0⟩]
def prog3 : List Fn := [⟨code3, [false, false, false]⟩]
def t30 : Th := ⟨0, 0, [0, 0, 0, 0, 0, 0, 0, 0], [], false⟩
def t31 : Th := ⟨0, 1, [5, 0, 0, 0, 0, 0, 0, 0], [], false⟩
def t32 : Th := ⟨0, 2, [5, 0, 0, 0, 0, 0, 0, 0], [], false⟩
theorem step30 : stepS prog3 t30 0 = (t31, 0, true) := by kernel_rfl
theorem step31 : stepS prog3 t31 0 = (t32, 5, true) := by kernel_rfl
theorem step32 : stepS prog3 t32 0 = (doneT, 0, true) := by kernel_rfl
theorem fn3_ok {w : World} {B g1 g2 : Nat} (h1 : Blk w g1 32 #[.int .i64 1, .int .i64 0, .int .i64 0, .int .i64 0, .int .i64 5, .int .i64 15, .int .i64 0, .int .i64 0, .int .i64 0, .int .i64 0, .int .i64 14, .int .i64 0, .int .i64 0, .int .i64 0, .int .i64 0]) (h2 : Blk w g2 4 #[.bool false, .bool false, .bool false]) (b1 : g1 < B) (b2 : g2 < B) :
    FnOk w B ⟨some ⟨g1, 0, none⟩, 3, 3, some ⟨g2, 0, none⟩, 3, 3⟩ ⟨code3, [false, false, false]⟩ :=
  ⟨rfl, rfl, row_of_blk h1 b1, row_of_blk h2 b2, by simp [maxLen], by simp [maxLen], by
    intro i hi
    simp only [code3, List.mem_cons, List.not_mem_nil, or_false] at hi
    rcases hi with rfl | rfl | rfl <;> simp [InsOk, I64]⟩
theorem newT_ok (w : World) (t : Th) (hr : t.regs.length = 8) (hs : t.stack = []) : ThOk w w.heap.size t none 0 := ⟨hr, by rw [hs]; exact Row.nil, by rw [hs]; exact Nat.le_refl _, Nat.zero_le _⟩
theorem nilT_ok (w : World) (t : Th) (B : Option Addr) (d : Nat) (hr : t.regs.length = 8) (hs : t.stack = []) (hd : d ≤ maxLen) : ThOk w w.heap.size t B d := ⟨hr, by rw [hs]; exact Row.nil, by rw [hs]; exact Nat.zero_le _, hd⟩
set_option maxHeartbeats 4000000 in
set_option maxRecDepth 100000 in
theorem alive11 (w : World) (hT : Tab w) : Calls Tryd.prog 9 #[] w fun e w' => e = .returned (.bool true) ∧ Below w.heap.size w w' := by
  have HT := Lib.hid hT
  clear hT
  go_enter Tryd.func9, Tryd.ntmps9
  go_wp2_with fail
  generalize hW : (((w.alloc _).alloc _).alloc _).alloc _ = W
  obtain ⟨b1, b2, b3, b4, hz, hB⟩ := blk4 w _ _ _ _ _ _ _ _ W hW.symm
  clear hW
  have hfn := fn3_ok (B := W.heap.size) b1 b2 (by omega) (by omega)
  have HFS := Lib.hid (aliveFns_ok hfn b3 (by omega))
  have HT2 := Lib.hid (HT.out.step hB)
  have HB := Lib.hid hB
  have HB4 := Lib.hid b4
  have F0 : ∀ w', Below W.heap.size W w' → w'.cell? ⟨w.heap.size + 1 + 1 + 1, 0, none⟩ = some (.slice (some ⟨w.heap.size + 1 + 1, 0, none⟩) 1 1) := fun w' h => (h.cell (p := ⟨w.heap.size + 1 + 1 + 1, 0, none⟩) (by show w.heap.size + 1 + 1 + 1 < W.heap.size; omega)).trans (b4.cell 0)
  clear b1 b2 b3 b4 hB hfn hz
  refine region_tree (fun w' => Below W.heap.size W w') (.two [0] 1 (.two [] 2 (.one [3, 4, 5, 6] 7 (.one [] 8 (.fin [9, 10]))) 7 (.one [] 2 (.one [3, 4, 5, 6] 8 (.fin [9, 10])))) 7 (.one [] 1 (.one [] 2 (.one [3, 4, 5, 6] 8 (.fin [9, 10]))))) (by kernel_rfl) (by kernel_rfl) (by kernel_rfl) (fun _ _ d _ _ h => by cases d <;> exact h) (Below.refl _ _).drew ?_
  (try simp only [Act.put, List.setIfInBounds_toArray, List.set_cons_zero, List.set_cons_succ]); refine tree_two ?_; simp only [pickOps, List.getElem?_toArray, List.getElem?_cons_zero, List.getElem?_cons_succ]; (repeat (first | go_big_quiet_skip | (go_big_quiet_want; first | (go_big_quiet_op; first | go_big_quiet_on | ((first | with_reducible refine ⟨_, fun _ _ => rfl, ?_⟩); go_big_quiet_on)) | (simp (contextual := true) [go_sem, F0]; with_reducible refine ⟨_, fun _ _ => rfl, ?_⟩; go_big_quiet_on)))); refine wpQuiet_nil ?_
  refine ⟨?_, ?_⟩
  · go_wp2_with fail
    refine (vmNew_any 0 0 W.drew).mono ?_
    rintro e w1 ⟨rfl, hb⟩
    have HB1 := Lib.hid ((Below.refl W.heap.size W).drew.trans hb)
    clear hb
    go_wp2_with fail
    refine ⟨(fun w' => Below W.heap.size W w'), HB1.out, fun _ h => h, ?_⟩
    (try simp only [Act.put, List.setIfInBounds_toArray, List.set_cons_zero, List.set_cons_succ]); refine tree_two ?_; simp only [pickOps, List.getElem?_toArray, List.getElem?_cons_zero, List.getElem?_cons_succ]; (repeat (first | go_big_quiet_skip | (go_big_quiet_want; first | (go_big_quiet_op; first | go_big_quiet_on | ((first | with_reducible refine ⟨_, fun _ _ => rfl, ?_⟩); go_big_quiet_on)) | (simp (contextual := true) [go_sem, HB1]; with_reducible refine ⟨_, fun _ _ => rfl, ?_⟩; go_big_quiet_on)))); refine wpQuiet_nil ?_
    refine ⟨?_, ?_⟩
    · go_wp2_with fail
      refine (vmStep_any t30 (some ⟨w.heap.size + 1 + 1, 0, none⟩) none 1 0 prog3 0 w1 (HT2.out.step HB1.out) (by simp [prog3, maxLen]) (HFS.out.step HB1.out) (nilT_ok _ _ _ _ rfl rfl (Nat.zero_le _)) (by decide)).mono ?_
      rintro e w2 hout
      rw [step30] at hout
      obtain ⟨B2, d2, rfl, hok, _, hb⟩ := hout
      have HD2 := Lib.hid hok.cap
      have HB2 := Lib.hid ((HB1.out).trans (hb.mono (HB1.out).size))
      have HZ0 := Lib.hid (show (Tryd.prog.info? 28).map (·.size) = some (thArr t31 B2 d2).size from Tryd.infoTh)
      clear hok hb
      go_wp2_with fail
      refine ⟨(fun w' => Below W.heap.size W w'), HB2.out, fun _ h => h, ?_⟩
      (try simp only [Act.put, List.setIfInBounds_toArray, List.set_cons_zero, List.set_cons_succ]); refine tree_one ?_; simp only [pickOps, List.getElem?_toArray, List.getElem?_cons_zero, List.getElem?_cons_succ]; (repeat (first | go_big_quiet_skip | (go_big_quiet_want; first | (go_big_quiet_op; first | go_big_quiet_on | ((first | with_reducible refine ⟨_, fun _ _ => rfl, ?_⟩); go_big_quiet_on)) | (simp (contextual := true) [go_sem, HB2]; with_reducible refine ⟨_, fun _ _ => rfl, ?_⟩; go_big_quiet_on)))); refine wpQuiet_nil ?_
      go_wp2_with fail
      refine ⟨(fun w' => Below W.heap.size W w'), HB2.out.alloc HB2.out.size _, fun _ h => h, ?_⟩
      (try simp only [Act.put, List.setIfInBounds_toArray, List.set_cons_zero, List.set_cons_succ]); refine tree_one ?_; simp only [pickOps, List.getElem?_toArray, List.getElem?_cons_zero, List.getElem?_cons_succ]; (repeat (first | go_big_quiet_skip | (go_big_quiet_want; first | (go_big_quiet_op; first | go_big_quiet_on | ((first | with_reducible refine ⟨_, fun _ _ => rfl, ?_⟩); go_big_quiet_on)) | (simp (contextual := true) [go_sem, HB2]; with_reducible refine ⟨_, fun _ _ => rfl, ?_⟩; go_big_quiet_on)))); refine wpQuiet_nil ?_
      go_wp2_with (refine wpList_store_row rfl 28 _ _ rfl w2.heap.size (thArr t31 B2 d2) rfl rfl 28 _ (Blk.new w2 _ _) HZ0.out rfl (thArr_one t31 B2 d2) ?_)
      have hw4 : ∃ w4 : World, Hid (w4 = (w2.alloc (.cells #[.int .i64 0, .int .i64 0, .int .i64 0, .int .i64 0, .int .i64 0, .int .i64 0, .int .i64 0, .int .i64 0, .int .i64 0, .int .i64 0, .slice none 0 0, .bool false] 28)).setRow w2.heap.size (thArr t31 B2 d2)) := ⟨_, rfl⟩
      obtain ⟨w4, HW4⟩ := hw4
      rw [← HW4.out]
      have HB4 := Lib.hid (show Below W.heap.size W w4 by rw [HW4.out]; exact below_setRow (HB2.out.alloc HB2.out.size _) HB2.out.size (by rw [World.size_alloc]; exact Nat.le_trans HB2.out.size (Nat.le_succ _)) _)
      have HT4 := Lib.hid (show Blk w4 w2.heap.size 28 (thArr t31 B2 d2) by rw [HW4.out]; exact (Blk.new w2 _ _).setRow _)
      have p4 := F0 w4 HB4.out
      have HZ2 := Lib.hid (show (Tryd.prog.info? 28).map (·.size) = some (thArr t31 B2 d2).size from Tryd.infoTh)
      refine ⟨fun w' => Below W.heap.size W w', HB4.out, fun _ h => h, ?_⟩
      (try simp only [Act.put]); refine tree_fin ?_; simp only [pickOps, List.getElem?_toArray, List.getElem?_cons_zero, List.getElem?_cons_succ]; (repeat (first | go_big_quiet_skip | (go_big_quiet_want; first | (go_big_quiet_op; first | go_big_quiet_on | ((first | with_reducible refine ⟨_, fun _ _ => rfl, ?_⟩); go_big_quiet_on)) | (simp (contextual := true) [go_sem, HB4]; with_reducible refine ⟨_, fun _ _ => rfl, ?_⟩; go_big_quiet_on)))); refine wpQuiet_nil ?_
      go_wp2_with (refine wpList_load_rowW (by rfl) 28 _ rfl w2.heap.size rfl 28 (thArr t31 B2 d2) (0, 0) _ HT4.out Tryd.underlying28 rfl HZ2.out ?_)
      refine (vmStep_any t31 (some ⟨w.heap.size + 1 + 1, 0, none⟩) B2 1 d2 prog3 0 w4 (HT2.out.step HB4.out) (by simp [prog3, maxLen]) (HFS.out.step HB4.out) (nilT_ok _ _ _ _ rfl rfl HD2.out) (by decide)).mono ?_
      rintro e w5 hout
      rw [step31] at hout
      obtain ⟨B5, d5, rfl, hok, _, hb⟩ := hout
      have HD5 := Lib.hid hok.cap
      have HB5 := Lib.hid ((HB4.out).trans (hb.mono (HB4.out).size))
      have p5 := F0 w5 HB5.out
      have HZ5 := Lib.hid (show (Tryd.prog.info? 28).map (·.size) = some (thArr t32 B5 d5).size from Tryd.infoTh)
      clear hok hb p4
      have hk5 : ∀ w6 : World, Hid (w6 = (w5.alloc (.cells #[.int .i64 0, .int .i64 0, .int .i64 0, .int .i64 0, .int .i64 0, .int .i64 0, .int .i64 0, .int .i64 0, .int .i64 0, .int .i64 0, .slice none 0 0, .bool false] 28)).setRow w5.heap.size (thArr t32 B5 d5)) → Blk w6 w5.heap.size 28 (thArr t32 B5 d5) ∧ Below W.heap.size W w6 := fun w6 h => by
        rw [h.out]
        exact ⟨(Blk.new w5 _ _).setRow _, below_setRow (HB5.out.alloc HB5.out.size _) HB5.out.size (by rw [World.size_alloc]; exact Nat.le_trans HB5.out.size (Nat.le_succ _)) _⟩
      have HK5 := Lib.hid hk5
      clear hk5
      go_wp2_with (first | (refine wpList_store_row rfl 28 _ _ rfl w5.heap.size (thArr t32 B5 d5) rfl rfl 28 _ (Blk.new w5 _ _) HZ5.out rfl (thArr_one t32 B5 d5) ?_; have hw6 : ∃ w6 : World, Hid (w6 = (w5.alloc (.cells #[.int .i64 0, .int .i64 0, .int .i64 0, .int .i64 0, .int .i64 0, .int .i64 0, .int .i64 0, .int .i64 0, .int .i64 0, .int .i64 0, .slice none 0 0, .bool false] 28)).setRow w5.heap.size (thArr t32 B5 d5)) := ⟨_, rfl⟩; obtain ⟨w6, HW6⟩ := hw6; rw [← HW6.out]; obtain ⟨hT6, hB6⟩ := HK5.out w6 HW6; have HT6 := Lib.hid hT6; have HB6 := Lib.hid hB6; have p6 := F0 w6 hB6; clear hT6 hB6) | (refine wpList_load_rowW (by rfl) 28 _ rfl w5.heap.size rfl 28 (thArr t32 B5 d5) (0, 0) _ HT6.out Tryd.underlying28 rfl HZ5.out ?_))
      refine (vmStep_any t32 (some ⟨w.heap.size + 1 + 1, 0, none⟩) B5 1 d5 prog3 0 w6 (HT2.out.step HB6.out) (by simp [prog3, maxLen]) (HFS.out.step HB6.out) (nilT_ok _ _ _ _ rfl rfl HD5.out) (by decide)).mono ?_
      rintro e w7 hout
      rw [step32] at hout
      obtain ⟨B7, d7, rfl, hok, _, hb⟩ := hout
      have HD7 := Lib.hid hok.cap
      have HB7 := Lib.hid ((HB6.out).trans (hb.mono (HB6.out).size))
      have HZ7 := Lib.hid (show (Tryd.prog.info? 28).map (·.size) = some (thArr doneT B7 d7).size from Tryd.infoTh)
      have hk7 : ∀ w8 : World, Hid (w8 = (w7.alloc (.cells #[.int .i64 0, .int .i64 0, .int .i64 0, .int .i64 0, .int .i64 0, .int .i64 0, .int .i64 0, .int .i64 0, .int .i64 0, .int .i64 0, .slice none 0 0, .bool false] 28)).setRow w7.heap.size (thArr doneT B7 d7)) → w8.cell? ⟨w7.heap.size, 11, none⟩ = some (.bool true) ∧ Below W.heap.size W w8 := fun w8 h => by
        rw [h.out]
        exact ⟨((Blk.new w7 _ _).setRow (thArr doneT B7 d7)).cell 11, below_setRow (HB7.out.alloc HB7.out.size _) HB7.out.size (by rw [World.size_alloc]; exact Nat.le_trans HB7.out.size (Nat.le_succ _)) _⟩
      have HK7 := Lib.hid hk7
      clear hk7 hok hb F0 p5 p6
      go_wp2_with (refine wpList_store_row rfl 28 _ _ rfl w7.heap.size (thArr doneT B7 d7) rfl rfl 28 _ (Blk.new w7 _ _) HZ7.out rfl (thArr_one doneT B7 d7) ?_; have hw8 : ∃ w8 : World, Hid (w8 = (w7.alloc (.cells #[.int .i64 0, .int .i64 0, .int .i64 0, .int .i64 0, .int .i64 0, .int .i64 0, .int .i64 0, .int .i64 0, .int .i64 0, .int .i64 0, .slice none 0 0, .bool false] 28)).setRow w7.heap.size (thArr doneT B7 d7)) := ⟨_, rfl⟩; obtain ⟨w8, HW8⟩ := hw8; rw [← HW8.out]; obtain ⟨c8, hB8⟩ := HK7.out w8 HW8; have HB8 := Lib.hid hB8; clear hB8)
      go_ret
      exact ⟨rfl, HB.out.trans (HB8.out.mono HB.out.size)⟩
    · go_wp2_with fail
      refine ⟨(fun w' => Below W.heap.size W w'), HB1.out.alloc HB1.out.size _, fun _ h => h, ?_⟩
      (try simp only [Act.put, List.setIfInBounds_toArray, List.set_cons_zero, List.set_cons_succ]); refine tree_one ?_; simp only [pickOps, List.getElem?_toArray, List.getElem?_cons_zero, List.getElem?_cons_succ]; (repeat (first | go_big_quiet_skip | (go_big_quiet_want; first | (go_big_quiet_op; first | go_big_quiet_on | ((first | with_reducible refine ⟨_, fun _ _ => rfl, ?_⟩); go_big_quiet_on)) | (simp (contextual := true) [go_sem, HB1]; with_reducible refine ⟨_, fun _ _ => rfl, ?_⟩; go_big_quiet_on)))); refine wpQuiet_nil ?_
      go_wp2_with fail
      have hw9 : ∃ w9 : World, Hid (w9 = w1.alloc (.cells #[.int .i64 0, .int .i64 0, .int .i64 0, .int .i64 0, .int .i64 0, .int .i64 0, .int .i64 0, .int .i64 0, .int .i64 0, .int .i64 0, .slice none 0 0, .bool false] 28)) := ⟨_, rfl⟩
      obtain ⟨w9, HW9⟩ := hw9
      rw [← HW9.out]
      have HB9 := Lib.hid (show Below W.heap.size W w9 by rw [HW9.out]; exact HB1.out.alloc HB1.out.size _)
      have HG9 := Lib.hid (show Blk w9 w1.heap.size 28 #[.int .i64 0, .int .i64 0, .int .i64 0, .int .i64 0, .int .i64 0, .int .i64 0, .int .i64 0, .int .i64 0, .int .i64 0, .int .i64 0, .slice none 0 0, .bool false] by rw [HW9.out]; exact Blk.new w1 _ _)
      refine (vmStep_any t30 (some ⟨w.heap.size + 1 + 1, 0, none⟩) none 1 0 prog3 0 w9 (HT2.out.step HB9.out) (by simp [prog3, maxLen]) (HFS.out.step HB9.out) (nilT_ok _ _ _ _ rfl rfl (Nat.zero_le _)) (by decide)).mono ?_
      rintro e w2 hout
      rw [step30] at hout
      obtain ⟨B2, d2, rfl, hok, _, hb⟩ := hout
      have HD2 := Lib.hid hok.cap
      have HB2 := Lib.hid ((HB9.out).trans (hb.mono (HB9.out).size))
      have HG2 := Lib.hid (HG9.out.below hb HG9.out.lt)
      have HZ0 := Lib.hid (show (Tryd.prog.info? 28).map (·.size) = some (thArr t31 B2 d2).size from Tryd.infoTh)
      clear hok hb
      go_wp2_with fail
      refine ⟨(fun w' => Below W.heap.size W w'), HB2.out, fun _ h => h, ?_⟩
      (try simp only [Act.put, List.setIfInBounds_toArray, List.set_cons_zero, List.set_cons_succ]); refine tree_one ?_; simp only [pickOps, List.getElem?_toArray, List.getElem?_cons_zero, List.getElem?_cons_succ]; (repeat (first | go_big_quiet_skip | (go_big_quiet_want; first | (go_big_quiet_op; first | go_big_quiet_on | ((first | with_reducible refine ⟨_, fun _ _ => rfl, ?_⟩); go_big_quiet_on)) | (simp (contextual := true) [go_sem, HB2]; with_reducible refine ⟨_, fun _ _ => rfl, ?_⟩; go_big_quiet_on)))); refine wpQuiet_nil ?_
      go_wp2_with (refine wpList_store_row rfl 28 _ _ rfl w1.heap.size (thArr t31 B2 d2) rfl rfl 28 _ HG2.out HZ0.out rfl (thArr_one t31 B2 d2) ?_)
      have hw4 : ∃ w4 : World, Hid (w4 = w2.setRow w1.heap.size (thArr t31 B2 d2)) := ⟨_, rfl⟩
      obtain ⟨w4, HW4⟩ := hw4
      rw [← HW4.out]
      have HB4 := Lib.hid (show Below W.heap.size W w4 by rw [HW4.out]; exact below_setRow HB2.out HB1.out.size HB2.out.size _)
      have HT4 := Lib.hid (show Blk w4 w1.heap.size 28 (thArr t31 B2 d2) by rw [HW4.out]; exact HG2.out.setRow _)
      have p4 := F0 w4 HB4.out
      have HZ2 := Lib.hid (show (Tryd.prog.info? 28).map (·.size) = some (thArr t31 B2 d2).size from Tryd.infoTh)
      refine ⟨fun w' => Below W.heap.size W w', HB4.out, fun _ h => h, ?_⟩
      (try simp only [Act.put]); refine tree_fin ?_; simp only [pickOps, List.getElem?_toArray, List.getElem?_cons_zero, List.getElem?_cons_succ]; (repeat (first | go_big_quiet_skip | (go_big_quiet_want; first | (go_big_quiet_op; first | go_big_quiet_on | ((first | with_reducible refine ⟨_, fun _ _ => rfl, ?_⟩); go_big_quiet_on)) | (simp (contextual := true) [go_sem, HB4]; with_reducible refine ⟨_, fun _ _ => rfl, ?_⟩; go_big_quiet_on)))); refine wpQuiet_nil ?_
      go_wp2_with (refine wpList_load_rowW (by rfl) 28 _ rfl w1.heap.size rfl 28 (thArr t31 B2 d2) (0, 0) _ HT4.out Tryd.underlying28 rfl HZ2.out ?_)
      refine (vmStep_any t31 (some ⟨w.heap.size + 1 + 1, 0, none⟩) B2 1 d2 prog3 0 w4 (HT2.out.step HB4.out) (by simp [prog3, maxLen]) (HFS.out.step HB4.out) (nilT_ok _ _ _ _ rfl rfl HD2.out) (by decide)).mono ?_
      rintro e w5 hout
      rw [step31] at hout
      obtain ⟨B5, d5, rfl, hok, _, hb⟩ := hout
      have HD5 := Lib.hid hok.cap
      have HB5 := Lib.hid ((HB4.out).trans (hb.mono (HB4.out).size))
      have p5 := F0 w5 HB5.out
      have HZ5 := Lib.hid (show (Tryd.prog.info? 28).map (·.size) = some (thArr t32 B5 d5).size from Tryd.infoTh)
      clear hok hb p4
      have hk5 : ∀ w6 : World, Hid (w6 = (w5.alloc (.cells #[.int .i64 0, .int .i64 0, .int .i64 0, .int .i64 0, .int .i64 0, .int .i64 0, .int .i64 0, .int .i64 0, .int .i64 0, .int .i64 0, .slice none 0 0, .bool false] 28)).setRow w5.heap.size (thArr t32 B5 d5)) → Blk w6 w5.heap.size 28 (thArr t32 B5 d5) ∧ Below W.heap.size W w6 := fun w6 h => by
        rw [h.out]
        exact ⟨(Blk.new w5 _ _).setRow _, below_setRow (HB5.out.alloc HB5.out.size _) HB5.out.size (by rw [World.size_alloc]; exact Nat.le_trans HB5.out.size (Nat.le_succ _)) _⟩
      have HK5 := Lib.hid hk5
      clear hk5
      go_wp2_with (first | (refine wpList_store_row rfl 28 _ _ rfl w5.heap.size (thArr t32 B5 d5) rfl rfl 28 _ (Blk.new w5 _ _) HZ5.out rfl (thArr_one t32 B5 d5) ?_; have hw6 : ∃ w6 : World, Hid (w6 = (w5.alloc (.cells #[.int .i64 0, .int .i64 0, .int .i64 0, .int .i64 0, .int .i64 0, .int .i64 0, .int .i64 0, .int .i64 0, .int .i64 0, .int .i64 0, .slice none 0 0, .bool false] 28)).setRow w5.heap.size (thArr t32 B5 d5)) := ⟨_, rfl⟩; obtain ⟨w6, HW6⟩ := hw6; rw [← HW6.out]; obtain ⟨hT6, hB6⟩ := HK5.out w6 HW6; have HT6 := Lib.hid hT6; have HB6 := Lib.hid hB6; have p6 := F0 w6 hB6; clear hT6 hB6) | (refine wpList_load_rowW (by rfl) 28 _ rfl w5.heap.size rfl 28 (thArr t32 B5 d5) (0, 0) _ HT6.out Tryd.underlying28 rfl HZ5.out ?_))
      refine (vmStep_any t32 (some ⟨w.heap.size + 1 + 1, 0, none⟩) B5 1 d5 prog3 0 w6 (HT2.out.step HB6.out) (by simp [prog3, maxLen]) (HFS.out.step HB6.out) (nilT_ok _ _ _ _ rfl rfl HD5.out) (by decide)).mono ?_
      rintro e w7 hout
      rw [step32] at hout
      obtain ⟨B7, d7, rfl, hok, _, hb⟩ := hout
      have HD7 := Lib.hid hok.cap
      have HB7 := Lib.hid ((HB6.out).trans (hb.mono (HB6.out).size))
      have HZ7 := Lib.hid (show (Tryd.prog.info? 28).map (·.size) = some (thArr doneT B7 d7).size from Tryd.infoTh)
      have hk7 : ∀ w8 : World, Hid (w8 = (w7.alloc (.cells #[.int .i64 0, .int .i64 0, .int .i64 0, .int .i64 0, .int .i64 0, .int .i64 0, .int .i64 0, .int .i64 0, .int .i64 0, .int .i64 0, .slice none 0 0, .bool false] 28)).setRow w7.heap.size (thArr doneT B7 d7)) → w8.cell? ⟨w7.heap.size, 11, none⟩ = some (.bool true) ∧ Below W.heap.size W w8 := fun w8 h => by
        rw [h.out]
        exact ⟨((Blk.new w7 _ _).setRow (thArr doneT B7 d7)).cell 11, below_setRow (HB7.out.alloc HB7.out.size _) HB7.out.size (by rw [World.size_alloc]; exact Nat.le_trans HB7.out.size (Nat.le_succ _)) _⟩
      have HK7 := Lib.hid hk7
      clear hk7 hok hb F0 p5 p6
      go_wp2_with (refine wpList_store_row rfl 28 _ _ rfl w7.heap.size (thArr doneT B7 d7) rfl rfl 28 _ (Blk.new w7 _ _) HZ7.out rfl (thArr_one doneT B7 d7) ?_; have hw8 : ∃ w8 : World, Hid (w8 = (w7.alloc (.cells #[.int .i64 0, .int .i64 0, .int .i64 0, .int .i64 0, .int .i64 0, .int .i64 0, .int .i64 0, .int .i64 0, .int .i64 0, .int .i64 0, .slice none 0 0, .bool false] 28)).setRow w7.heap.size (thArr doneT B7 d7)) := ⟨_, rfl⟩; obtain ⟨w8, HW8⟩ := hw8; rw [← HW8.out]; obtain ⟨c8, hB8⟩ := HK7.out w8 HW8; have HB8 := Lib.hid hB8; clear hB8)
      go_ret
      exact ⟨rfl, HB.out.trans (HB8.out.mono HB.out.size)⟩
  · go_wp2_with fail
    have hw9 : ∃ w9 : World, Hid (w9 = (W.alloc (.cells #[.int .i64 0, .int .i64 0, .int .i64 0, .int .i64 0, .int .i64 0, .int .i64 0, .int .i64 0, .int .i64 0, .int .i64 0, .int .i64 0, .slice none 0 0, .bool false] 28)).drew) := ⟨_, rfl⟩
    obtain ⟨w9, HW9⟩ := hw9
    rw [← HW9.out]
    have HB9 := Lib.hid (show Below W.heap.size W w9 by rw [HW9.out]; exact ((Below.refl _ _).alloc (Nat.le_refl _) _).drew)
    have HG9 := Lib.hid (show Blk w9 W.heap.size 28 #[.int .i64 0, .int .i64 0, .int .i64 0, .int .i64 0, .int .i64 0, .int .i64 0, .int .i64 0, .int .i64 0, .int .i64 0, .int .i64 0, .slice none 0 0, .bool false] by rw [HW9.out]; exact (Blk.new W _ _).drew)
    refine ⟨(fun w' => Below W.heap.size W w'), HB9.out, fun _ h => h, ?_⟩
    (try simp only [Act.put, List.setIfInBounds_toArray, List.set_cons_zero, List.set_cons_succ]); refine tree_one ?_; simp only [pickOps, List.getElem?_toArray, List.getElem?_cons_zero, List.getElem?_cons_succ]; (repeat (first | go_big_quiet_skip | (go_big_quiet_want; first | (go_big_quiet_op; first | go_big_quiet_on | ((first | with_reducible refine ⟨_, fun _ _ => rfl, ?_⟩); go_big_quiet_on)) | (simp (contextual := true) [go_sem, HB9]; with_reducible refine ⟨_, fun _ _ => rfl, ?_⟩; go_big_quiet_on)))); refine wpQuiet_nil ?_
    go_wp2_with fail
    refine (vmNew_any 0 0 w9).mono ?_
    rintro e w1 ⟨rfl, hb⟩
    have HB1 := Lib.hid (HB9.out.trans (hb.mono HB9.out.size))
    have HG1 := Lib.hid (HG9.out.below hb HG9.out.lt)
    clear hb
    go_wp2_with fail
    refine ⟨(fun w' => Below W.heap.size W w'), HB1.out, fun _ h => h, ?_⟩
    (try simp only [Act.put, List.setIfInBounds_toArray, List.set_cons_zero, List.set_cons_succ]); refine tree_one ?_; simp only [pickOps, List.getElem?_toArray, List.getElem?_cons_zero, List.getElem?_cons_succ]; (repeat (first | go_big_quiet_skip | (go_big_quiet_want; first | (go_big_quiet_op; first | go_big_quiet_on | ((first | with_reducible refine ⟨_, fun _ _ => rfl, ?_⟩); go_big_quiet_on)) | (simp (contextual := true) [go_sem, HB1]; with_reducible refine ⟨_, fun _ _ => rfl, ?_⟩; go_big_quiet_on)))); refine wpQuiet_nil ?_
    go_wp2_with fail
    refine (vmStep_any t30 (some ⟨w.heap.size + 1 + 1, 0, none⟩) none 1 0 prog3 0 w1 (HT2.out.step HB1.out) (by simp [prog3, maxLen]) (HFS.out.step HB1.out) (nilT_ok _ _ _ _ rfl rfl (Nat.zero_le _)) (by decide)).mono ?_
    rintro e w2 hout
    rw [step30] at hout
    obtain ⟨B2, d2, rfl, hok, _, hb⟩ := hout
    have HD2 := Lib.hid hok.cap
    have HB2 := Lib.hid ((HB1.out).trans (hb.mono (HB1.out).size))
    have HG2 := Lib.hid (HG1.out.below hb HG1.out.lt)
    have HZ0 := Lib.hid (show (Tryd.prog.info? 28).map (·.size) = some (thArr t31 B2 d2).size from Tryd.infoTh)
    clear hok hb
    go_wp2_with fail
    refine ⟨(fun w' => Below W.heap.size W w'), HB2.out, fun _ h => h, ?_⟩
    (try simp only [Act.put, List.setIfInBounds_toArray, List.set_cons_zero, List.set_cons_succ]); refine tree_one ?_; simp only [pickOps, List.getElem?_toArray, List.getElem?_cons_zero, List.getElem?_cons_succ]; (repeat (first | go_big_quiet_skip | (go_big_quiet_want; first | (go_big_quiet_op; first | go_big_quiet_on | ((first | with_reducible refine ⟨_, fun _ _ => rfl, ?_⟩); go_big_quiet_on)) | (simp (contextual := true) [go_sem, HB2]; with_reducible refine ⟨_, fun _ _ => rfl, ?_⟩; go_big_quiet_on)))); refine wpQuiet_nil ?_
    go_wp2_with (refine wpList_store_row rfl 28 _ _ rfl W.heap.size (thArr t31 B2 d2) rfl rfl 28 _ HG2.out HZ0.out rfl (thArr_one t31 B2 d2) ?_)
    have hw4 : ∃ w4 : World, Hid (w4 = w2.setRow W.heap.size (thArr t31 B2 d2)) := ⟨_, rfl⟩
    obtain ⟨w4, HW4⟩ := hw4
    rw [← HW4.out]
    have HB4 := Lib.hid (show Below W.heap.size W w4 by rw [HW4.out]; exact below_setRow HB2.out (Nat.le_refl _) HB2.out.size _)
    have HT4 := Lib.hid (show Blk w4 W.heap.size 28 (thArr t31 B2 d2) by rw [HW4.out]; exact HG2.out.setRow _)
    have p4 := F0 w4 HB4.out
    have HZ2 := Lib.hid (show (Tryd.prog.info? 28).map (·.size) = some (thArr t31 B2 d2).size from Tryd.infoTh)
    refine ⟨fun w' => Below W.heap.size W w', HB4.out, fun _ h => h, ?_⟩
    (try simp only [Act.put]); refine tree_fin ?_; simp only [pickOps, List.getElem?_toArray, List.getElem?_cons_zero, List.getElem?_cons_succ]; (repeat (first | go_big_quiet_skip | (go_big_quiet_want; first | (go_big_quiet_op; first | go_big_quiet_on | ((first | with_reducible refine ⟨_, fun _ _ => rfl, ?_⟩); go_big_quiet_on)) | (simp (contextual := true) [go_sem, HB4]; with_reducible refine ⟨_, fun _ _ => rfl, ?_⟩; go_big_quiet_on)))); refine wpQuiet_nil ?_
    go_wp2_with (refine wpList_load_rowW (by rfl) 28 _ rfl W.heap.size rfl 28 (thArr t31 B2 d2) (0, 0) _ HT4.out Tryd.underlying28 rfl HZ2.out ?_)
    refine (vmStep_any t31 (some ⟨w.heap.size + 1 + 1, 0, none⟩) B2 1 d2 prog3 0 w4 (HT2.out.step HB4.out) (by simp [prog3, maxLen]) (HFS.out.step HB4.out) (nilT_ok _ _ _ _ rfl rfl HD2.out) (by decide)).mono ?_
    rintro e w5 hout
    rw [step31] at hout
    obtain ⟨B5, d5, rfl, hok, _, hb⟩ := hout
    have HD5 := Lib.hid hok.cap
    have HB5 := Lib.hid ((HB4.out).trans (hb.mono (HB4.out).size))
    have p5 := F0 w5 HB5.out
    have HZ5 := Lib.hid (show (Tryd.prog.info? 28).map (·.size) = some (thArr t32 B5 d5).size from Tryd.infoTh)
    clear hok hb p4
    have hk5 : ∀ w6 : World, Hid (w6 = (w5.alloc (.cells #[.int .i64 0, .int .i64 0, .int .i64 0, .int .i64 0, .int .i64 0, .int .i64 0, .int .i64 0, .int .i64 0, .int .i64 0, .int .i64 0, .slice none 0 0, .bool false] 28)).setRow w5.heap.size (thArr t32 B5 d5)) → Blk w6 w5.heap.size 28 (thArr t32 B5 d5) ∧ Below W.heap.size W w6 := fun w6 h => by
      rw [h.out]
      exact ⟨(Blk.new w5 _ _).setRow _, below_setRow (HB5.out.alloc HB5.out.size _) HB5.out.size (by rw [World.size_alloc]; exact Nat.le_trans HB5.out.size (Nat.le_succ _)) _⟩
    have HK5 := Lib.hid hk5
    clear hk5
    go_wp2_with (first | (refine wpList_store_row rfl 28 _ _ rfl w5.heap.size (thArr t32 B5 d5) rfl rfl 28 _ (Blk.new w5 _ _) HZ5.out rfl (thArr_one t32 B5 d5) ?_; have hw6 : ∃ w6 : World, Hid (w6 = (w5.alloc (.cells #[.int .i64 0, .int .i64 0, .int .i64 0, .int .i64 0, .int .i64 0, .int .i64 0, .int .i64 0, .int .i64 0, .int .i64 0, .int .i64 0, .slice none 0 0, .bool false] 28)).setRow w5.heap.size (thArr t32 B5 d5)) := ⟨_, rfl⟩; obtain ⟨w6, HW6⟩ := hw6; rw [← HW6.out]; obtain ⟨hT6, hB6⟩ := HK5.out w6 HW6; have HT6 := Lib.hid hT6; have HB6 := Lib.hid hB6; have p6 := F0 w6 hB6; clear hT6 hB6) | (refine wpList_load_rowW (by rfl) 28 _ rfl w5.heap.size rfl 28 (thArr t32 B5 d5) (0, 0) _ HT6.out Tryd.underlying28 rfl HZ5.out ?_))
    refine (vmStep_any t32 (some ⟨w.heap.size + 1 + 1, 0, none⟩) B5 1 d5 prog3 0 w6 (HT2.out.step HB6.out) (by simp [prog3, maxLen]) (HFS.out.step HB6.out) (nilT_ok _ _ _ _ rfl rfl HD5.out) (by decide)).mono ?_
    rintro e w7 hout
    rw [step32] at hout
    obtain ⟨B7, d7, rfl, hok, _, hb⟩ := hout
    have HD7 := Lib.hid hok.cap
    have HB7 := Lib.hid ((HB6.out).trans (hb.mono (HB6.out).size))
    have HZ7 := Lib.hid (show (Tryd.prog.info? 28).map (·.size) = some (thArr doneT B7 d7).size from Tryd.infoTh)
    have hk7 : ∀ w8 : World, Hid (w8 = (w7.alloc (.cells #[.int .i64 0, .int .i64 0, .int .i64 0, .int .i64 0, .int .i64 0, .int .i64 0, .int .i64 0, .int .i64 0, .int .i64 0, .int .i64 0, .slice none 0 0, .bool false] 28)).setRow w7.heap.size (thArr doneT B7 d7)) → w8.cell? ⟨w7.heap.size, 11, none⟩ = some (.bool true) ∧ Below W.heap.size W w8 := fun w8 h => by
      rw [h.out]
      exact ⟨((Blk.new w7 _ _).setRow (thArr doneT B7 d7)).cell 11, below_setRow (HB7.out.alloc HB7.out.size _) HB7.out.size (by rw [World.size_alloc]; exact Nat.le_trans HB7.out.size (Nat.le_succ _)) _⟩
    have HK7 := Lib.hid hk7
    clear hk7 hok hb F0 p5 p6
    go_wp2_with (refine wpList_store_row rfl 28 _ _ rfl w7.heap.size (thArr doneT B7 d7) rfl rfl 28 _ (Blk.new w7 _ _) HZ7.out rfl (thArr_one doneT B7 d7) ?_; have hw8 : ∃ w8 : World, Hid (w8 = (w7.alloc (.cells #[.int .i64 0, .int .i64 0, .int .i64 0, .int .i64 0, .int .i64 0, .int .i64 0, .int .i64 0, .int .i64 0, .int .i64 0, .int .i64 0, .slice none 0 0, .bool false] 28)).setRow w7.heap.size (thArr doneT B7 d7)) := ⟨_, rfl⟩; obtain ⟨w8, HW8⟩ := hw8; rw [← HW8.out]; obtain ⟨c8, hB8⟩ := HK7.out w8 HW8; have HB8 := Lib.hid hB8; clear hB8)
    go_ret
    exact ⟨rfl, HB.out.trans (HB8.out.mono HB.out.size)⟩
end Go.Proofs.YtoacnphgkgklcaaDoor

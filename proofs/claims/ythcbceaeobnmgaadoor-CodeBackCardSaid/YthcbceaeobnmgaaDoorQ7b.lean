/-
  The law CodeBack as a contract: it returns true, whatever is handed in. Condition: the table isa.rows is laid.
-/
import Derived.Test.YthcbceaeobnmgaaDoorSchE
import Derived.Defers
import Derived.Test.YthcbceaeobnmgaaDoorRfn7
import Derived.Recover
import Derived.Tactics
import Derived.Tactics2
import Derived.Test.YthcbceaeobnmgaaDoorBck7
import Derived.Test.YthcbceaeobnmgaaDoorCSm7
import Derived.Test.YthcbceaeobnmgaaDoorAly7
namespace Go.Proofs.YthcbceaeobnmgaaDoor
open Go.RowKit
section
variable {P : Program} {ops : Array Oper} {Q : Exit → Act → World → Prop} {md : Region.Mode}
theorem plainsL_takeD {S : World → Prop} {m fuel : Nat} {w : World} {K : Act → Prop} {listed' : Array Bool} (hs : Region.noSelect ops = true) (hlast : lastB md ops m = true) (hQ : ∀ (k : Nat) (o : Oper), ops[k]? = some o → ∀ (c : List PanicEntry) (a : Act) (v : Value) (w : World), Q (.panic c) (a.put o.dst v) w → Q (.panic c) a w) (hS : S w)
    (hK : ∀ a', ClosedL md ops listed' → K a' → wpAnyE P md ops Q S m fuel listed' a' w) : ∀ (ks : List Nat) (listed : Array Bool) (a : Act), ClosedL md ops listed →
    plainsL md ops ks listed = some listed' → wpQuiet P ops S K (pickOps ops ks) a → wpAnyE P md ops Q S m (ks.length + fuel) listed a w
  | [], listed, a, hcl, hp, h => by
    simp only [plainsL, Option.some.injEq] at hp
    subst hp
    rw [List.length_nil, Nat.zero_add]
    exact hK a hcl h
  | k :: ks, listed, a, hcl, hp, h => by
    simp only [plainsL] at hp
    split at hp
    · rename_i hb
      simp only [Bool.and_eq_true] at hb
      cases h0 : ops[k]? with
      | none => rw [h0] at hb; exact absurd hb.2 (by simp)
      | some o =>
        rw [h0] at hb
        simp only [Option.map_some, Option.getD_some] at hb
        simp only [pickOps, h0] at h
        have hst : qOp P ops S k (wpQuiet P ops S K (pickOps ops ks)) a := by unfold qOp; simp only [h0]; exact h
        obtain ⟨v, hy, hK'⟩ := yieldsIf_of_quiet h0 hb.2 hst
        rw [List.length_cons, show ks.length + 1 + fuel = (ks.length + fuel) + 1 by omega]
        refine wpAnyE_first h0 (Region.noSelect_spec hs) (fun c a w h => hQ k o h0 c a _ w h) hlast _ _ _ _ hcl (Region.free_spec h0 hb.1.2) (by simpa using hb.1.1) hy hS ?_
        exact plainsL_takeD hs hlast hQ hS hK ks _ _ (hcl.set (by simpa using hb.1.1)) hp hK'
    · cases hp
theorem schE_anyD {lp : List Nat} {li : Nat} (hs : Region.noSelect ops = true) (hlast : lastB md ops li = true) (hQ : ∀ (k : Nat) (o : Oper), ops[k]? = some o → ∀ (c : List PanicEntry) (a : Act) (v : Value) (w : World), Q (.panic c) (a.put o.dst v) w → Q (.panic c) a w) :
    ∀ (segs : List (List Nat × Nat)) (S : World → Prop) (listed : Array Bool) (a : Act) (w : World), ClosedL md ops listed → schEB md ops lp li segs listed = true → S w → wpSchE P ops Q lp li segs S a w → wpAnyE P md ops Q S li (schLen segs lp + 1) listed a w
  | [], S, listed, a, w, hcl, hB, hS, h => by
    unfold schEB at hB
    split at hB
    · rename_i l' hp
      rw [Bool.and_eq_true, decide_eq_true_eq] at hB
      obtain ⟨hr, hB⟩ := hB
      have hi : li ∈ Region.ready md ops l' := by rw [hr]; simp
      obtain ⟨_, o, ho, _⟩ := mem_ready.1 hi
      have hpk : pickOps ops [li] = [o] := by simp [pickOps, ho]
      have := plainsL_takeD (fuel := 1) (P := P) (md := md) (S := S) (w := w) (m := li) (listed' := l') hs hlast hQ hS (K := fun a' => wpList P ops Q (pickOps ops [li]) a' w) (fun a' _ hq => by
        rw [hpk] at hq
        exact step_of_list ho hr (wpList_then_self hq) fun a'' w'' h3 => ⟨fun hne => absurd rfl hne, by simpa using hB, h3⟩) lp listed a hcl hp h
      exact this
    · cases hB
  | (pl, i) :: rest, S, listed, a, w, hcl, hB, hS, h => by
    unfold schEB at hB
    split at hB
    · rename_i l' hp
      rw [Bool.and_eq_true, decide_eq_true_eq, Bool.and_eq_true, decide_eq_true_eq] at hB
      obtain ⟨hr, _, hB⟩ := hB
      have hi : i ∈ Region.ready md ops l' := by rw [hr]; simp
      obtain ⟨_, o, ho, _⟩ := mem_ready.1 hi
      have hpk : pickOps ops [i] = [o] := by simp [pickOps, ho]
      have := plainsL_takeD (fuel := 1 + (schLen rest lp + 1)) (P := P) (md := md) (S := S) (w := w) (m := li) (listed' := l') hs hlast hQ hS (K := fun a' => wpList P ops (Exit.then (fun a'' w'' => ∃ S' : World → Prop, S' w'' ∧ (∀ w, S' w → S w) ∧ wpSchE P ops Q lp li rest S' a'' w'') Q) (pickOps ops [i]) a' w) (fun a' hcl' hq => by
        rw [Nat.add_comm 1]
        rw [hpk] at hq
        refine step_of_list ho hr hq fun a'' w'' h3 => ?_
        obtain ⟨S', hS', hSS, h4⟩ := h3
        exact ⟨fun _ => hSS _ hS', wpAnyE_mono hSS _ _ _ _ (schE_anyD hs hlast hQ rest S' (l'.setIfInBounds i true) a'' w'' (hcl'.set hi) hB hS' h4)⟩) pl listed a hcl hp h
      have e : pl.length + (1 + (schLen rest lp + 1)) = schLen ((pl, i) :: rest) lp + 1 := by simp only [schLen]; omega
      rw [e] at this
      exact this
    · cases hB
/-- THE REGION, its last step free. -/
theorem region_schED {id : Nat} {a : Act} {w : World} {l : List Oper} (S : World → Prop) (segs : List (List Nat × Nat)) (lp : List Nat) (li : Nat) (hm : P.follows .mixedOrders = true) (hs : Region.noSelect l.toArray = true) (hB : (schEB .any l.toArray lp li segs (Array.replicate l.toArray.size false) && (decide (schLen segs lp + 1 = l.length) && lastB .any l.toArray li)) = true)
    (hQ : ∀ (k : Nat) (o : Oper), l.toArray[k]? = some o → ∀ (c : List PanicEntry) (a : Act) (v : Value) (w : World), Q (.panic c) (a.put o.dst v) w → Q (.panic c) a w) (hS : S w.drew) (h : wpSchE P l.toArray Q lp li segs S a w.drew) : (Code.region id l.toArray true).wp P Q a w := by
  rw [Bool.and_eq_true, Bool.and_eq_true, decide_eq_true_eq] at hB
  refine wp_region_any hm (wpAny_of_E (S := S) (m := li) _ _ _ _ ?_)
  have := schE_anyD (P := P) (ops := l.toArray) (md := .any) hs hB.2.2 hQ segs S (Array.replicate l.toArray.size false) a w.drew (ClosedL.start _) hB.1 hS h
  rw [hB.2.1] at this
  simpa using this
end
theorem leaves_tmps {P : Program} {fn : Func} {t1 t2 : Array Value} {R : Ending → World → Prop} (hr : ∀ w, (results fn t1).run P w = (results fn t2).run P w) : ∀ (ds : List Deferred) (u : FrameMode) (w : World), Leaves P fn t1 R ds u w → Leaves P fn t2 R ds u w
  | [], .returning, w, h => by
    obtain ⟨v, h1, h2⟩ := h
    exact ⟨v, by rw [← hr]; exact h1, h2⟩
  | [], .panicking c, w, h => h
  | [], .run, w, h => h.elim
  | d :: ds, u, w, h => by
    obtain ⟨hu, fv, cap, f, args, h1, h2, h3⟩ := h
    refine ⟨hu, fv, cap, f, args, h1, h2, h3.mono ?_⟩
    intro e u' w' h4
    cases e with
    | returned v => exact leaves_tmps hr ds _ _ h4
    | panicked c => exact leaves_tmps hr ds _ _ h4
    | outgrown => exact h4
theorem leaves_put {P : Program} {fn : Func} {R : Ending → World → Prop} {a : Act} {o : Option Tmp} {v : Value} {w : World} {c : List PanicEntry} (hr : ∀ w, (results fn (a.put o v).tmps).run P w = (results fn a.tmps).run P w) (h : bodyPostD P fn R (.panic c) (a.put o v) w) : bodyPostD P fn R (.panic c) a w := by
  have h' : Leaves P fn (a.put o v).tmps R (a.put o v).defers (.panicking c) w := h
  have e : (a.put o v).defers = a.defers := by cases o <;> rfl
  rw [e] at h'
  exact leaves_tmps hr _ _ _ h'
end Go.Proofs.YthcbceaeobnmgaaDoor
namespace Go.Proofs.YthcbceaeobnmgaaDoor
open Go.RowKit
set_option maxHeartbeats 2000000 in
theorem catch_idle (gp ga gf : Nat) (w : World) :
    CallsD Tryd.prog 36 #[.pointer (some ⟨gp, 0, none⟩), .pointer (some ⟨ga, 0, none⟩), .pointer (some ⟨gf, 0, none⟩)] .returning w fun e u' w' => e = .returned (.tuple #[]) ∧ u' = .returning ∧ w' = w := by
  refine callsD_of_wpS Tryd.func36 rfl fun c₀ cs hu => ?_
  apply wpS_seq
  apply wpS_region
  simp [wpOpsS, go_sem, recoverD, hu, Tryd.ntmps36, Exit.thenS]
  simp only [Array.replicate_succ, Array.replicate_zero, List.push_toArray, List.append_toArray, List.nil_append, List.cons_append, List.setIfInBounds_toArray, List.set_cons_zero, List.set_cons_succ]
  refine wpS_of_wp ?_
  go_wp2_with fail
  refine ⟨rfl, .returning, ?_, .tuple #[], results_none rfl _ _ _, rfl, rfl, rfl⟩
  rw [← hu]
set_option maxHeartbeats 2000000 in
theorem catch_wrong (gp ga gf q : Nat) (x : Value) (y z : Value) (older : List PanicEntry) (w : World) (h0 : Blk w gp 24 #[x]) (h1 : Blk w ga 3 #[y]) (h2 : Blk w gf 36 #[z]) (hd : gp ≠ ga ∧ gp ≠ gf ∧ ga ≠ gf) (m : Nat) (hm : m ≤ gp ∧ m ≤ ga ∧ m ≤ gf ∧ m ≤ w.heap.size) :
    CallsD Tryd.prog 36 #[.pointer (some ⟨gp, 0, none⟩), .pointer (some ⟨ga, 0, none⟩), .pointer (some ⟨gf, 0, none⟩)] (.panicking ({ v := .iface 61 (.agg #[.int .i64 q]), recovered := false } :: older)) w fun e u' w' =>
      e = .returned (.tuple #[]) ∧ u' = .panicking ({ v := .iface 61 (.agg #[.int .i64 q]), recovered := true } :: older) ∧ Blk w' gp 24 #[.slice none 0 0] ∧ Blk w' ga 3 #[.int .i64 q] ∧ Blk w' gf 36 #[.int .i64 4] ∧ Below m w w' := by
  have hta : ∀ (v : Value) (w : World), (Instr.typeAssert (.iface 61 v) 20 61 true).run Tryd.prog w = .ok (.tuple #[v, .bool true]) w := fun _ _ => by kernel_rfl
  refine callsD_of_wpS Tryd.func36 rfl fun c₀ cs hu => ?_
  apply wpS_seq
  apply wpS_region
  simp [wpOpsS, go_sem, recoverD, hu, Tryd.ntmps36, Exit.thenS]
  simp only [Array.replicate_succ, Array.replicate_zero, List.push_toArray, List.append_toArray, List.nil_append, List.cons_append, List.setIfInBounds_toArray, List.set_cons_zero, List.set_cons_succ]
  refine wpS_of_wp ?_
  have a0 := h0.cell 0
  have a1 := h1.cell 0
  have a2 := h2.cell 0
  simp only [List.getElem?_toArray, List.getElem?_cons_zero] at a0 a1 a2
  have b0 := h0.frozen 0
  have b1 := h1.frozen 0
  have b2 := h2.frozen 0
  clear hu
  go_wp2_with fail
  have hw1 : ∃ w1 : World, Hid (w1 = w.alloc (.cells #[.int .i64 q] 61)) := ⟨_, rfl⟩
  obtain ⟨w1, HW1⟩ := hw1
  have hgw : ∃ gw : Nat, Hid (gw = w.heap.size) := ⟨_, rfl⟩
  obtain ⟨gw, HGW⟩ := hgw
  rw [← HW1.out, ← HGW.out]
  have HC := Lib.hid (show S1c gw (.int .i64 q) w1 by
    have h := (Blk.new w 61 #[.int .i64 q]).cell 0
    rw [← HW1.out, ← HGW.out] at h
    simp only [List.getElem?_toArray, List.getElem?_cons_zero] at h
    exact h)
  have k0 := Lib.hid (show Blk w1 gp 24 #[x] by rw [HW1.out]; exact h0.alloc _)
  have k1 := Lib.hid (show Blk w1 ga 3 #[y] by rw [HW1.out]; exact h1.alloc _)
  have k2 := Lib.hid (show Blk w1 gf 36 #[z] by rw [HW1.out]; exact h2.alloc _)
  have HNE := Lib.hid (show gw ≠ gp ∧ gw ≠ ga ∧ gw ≠ gf by rw [HGW.out]; have := h0.lt; have := h1.lt; have := h2.lt; omega)
  have HD := Lib.hid hd
  have HMM := Lib.hid hm
  have B1 := Lib.hid (show Below m w w1 by rw [HW1.out]; exact (Below.refl _ _).alloc hm.2.2.2 _)
  have F0 : ∀ w' : World, S1c gw (.int .i64 q) w' → w'.cell? ⟨gw, 0, none⟩ = some (.int .i64 q) := fun _ h => h
  clear a0 a1 a2 b0 b1 b2 h0 h1 h2 hd hm
  have a0 := k0.out.drew.cell 0
  have b0 := k0.out.drew.frozen 0
  simp only [List.getElem?_toArray, List.getElem?_cons_zero] at a0
  refine region_schE (S1c gw (.int .i64 q)) [([0, 1, 2], 3), ([], 4)] [] 5 (by kernel_rfl) (by kernel_rfl) (by kernel_rfl) (fun _ _ d _ _ h => by cases d <;> exact h) HC.out ?_
  (try simp only [Act.put, List.setIfInBounds_toArray, List.set_cons_zero, List.set_cons_succ]); refine schE_seg ?_; simp only [pickOps, List.getElem?_toArray, List.getElem?_cons_zero, List.getElem?_cons_succ]; (repeat (first | go_big_quiet_skip | (go_big_quiet_want; first | (go_big_quiet_op; first | go_big_quiet_on | ((first | with_reducible refine ⟨_, fun _ _ => rfl, ?_⟩); go_big_quiet_on)) | (simp (contextual := true) [go_sem, F0]; with_reducible refine ⟨_, fun _ _ => rfl, ?_⟩; go_big_quiet_on)))); refine wpQuiet_nil ?_
  go_wp2_with fail
  have hwa : ∃ wa : World, Hid (wa = (w1.setCell ⟨gp, 0, none⟩ (.slice none 0 0)).drew) := ⟨_, rfl⟩
  obtain ⟨wa, HWA⟩ := hwa
  rw [← HWA.out]
  have CA := Lib.hid (show S1c gw (.int .i64 q) wa by
    rw [HWA.out]
    exact (World.cell?_of_block (w := w1) (w' := (w1.setCell ⟨gp, 0, none⟩ (.slice none 0 0)).drew) (a := ⟨gw, 0, none⟩) (Below.heap_setCell w1 ⟨gp, 0, none⟩ (.slice none 0 0) gw HNE.out.1)).trans HC.out)
  have ka0 := Lib.hid (show Blk wa gp 24 #[.slice none 0 0] by rw [HWA.out]; simpa using (k0.out.set_ 0 (.slice none 0 0)).drew)
  have ka1 := Lib.hid (show Blk wa ga 3 #[y] by rw [HWA.out]; exact (k1.out.far (p := ⟨gp, 0, none⟩) (fun e => HD.out.1 e.symm) _).drew)
  have ka2 := Lib.hid (show Blk wa gf 36 #[z] by rw [HWA.out]; exact (k2.out.far (p := ⟨gp, 0, none⟩) (fun e => HD.out.2.1 e.symm) _).drew)
  refine ⟨S1c gw (.int .i64 q), CA.out, fun _ h => h, ?_⟩
  clear a0 b0
  have a1 := ka1.out.cell 0
  have b1 := ka1.out.frozen 0
  simp only [List.getElem?_toArray, List.getElem?_cons_zero] at a1
  (try simp only [Act.put, List.setIfInBounds_toArray, List.set_cons_zero, List.set_cons_succ]); refine schE_seg ?_; simp only [pickOps, List.getElem?_toArray, List.getElem?_cons_zero, List.getElem?_cons_succ]; (repeat (first | go_big_quiet_skip | (go_big_quiet_want; first | (go_big_quiet_op; first | go_big_quiet_on | ((first | with_reducible refine ⟨_, fun _ _ => rfl, ?_⟩); go_big_quiet_on)) | (simp (contextual := true) [go_sem, F0]; with_reducible refine ⟨_, fun _ _ => rfl, ?_⟩; go_big_quiet_on)))); refine wpQuiet_nil ?_
  go_wp2_with fail
  have hwb : ∃ wb : World, Hid (wb = wa.setCell ⟨ga, 0, none⟩ (.int .i64 q)) := ⟨_, rfl⟩
  obtain ⟨wb, HWB⟩ := hwb
  rw [← HWB.out]
  have CB := Lib.hid (show S1c gw (.int .i64 q) wb by
    rw [HWB.out]
    exact (World.cell?_of_block (w := wa) (w' := wa.setCell ⟨ga, 0, none⟩ (.int .i64 q)) (a := ⟨gw, 0, none⟩) (Below.heap_setCell wa ⟨ga, 0, none⟩ (.int .i64 q) gw HNE.out.2.1)).trans CA.out)
  have kb0 := Lib.hid (show Blk wb gp 24 #[.slice none 0 0] by rw [HWB.out]; exact ka0.out.far (p := ⟨ga, 0, none⟩) HD.out.1 _)
  have kb1 := Lib.hid (show Blk wb ga 3 #[.int .i64 q] by rw [HWB.out]; simpa using ka1.out.set_ 0 (.int .i64 q))
  have kb2 := Lib.hid (show Blk wb gf 36 #[z] by rw [HWB.out]; exact ka2.out.far (p := ⟨ga, 0, none⟩) (fun e => HD.out.2.2 e.symm) _)
  refine ⟨S1c gw (.int .i64 q), CB.out, fun _ h => h, ?_⟩
  clear a1 b1
  have a2 := kb2.out.cell 0
  have b2 := kb2.out.frozen 0
  simp only [List.getElem?_toArray, List.getElem?_cons_zero] at a2
  (try simp only [Act.put, List.setIfInBounds_toArray, List.set_cons_zero, List.set_cons_succ]); refine schE_last ?_; simp only [pickOps, List.getElem?_toArray, List.getElem?_cons_zero, List.getElem?_cons_succ]; (repeat (first | go_big_quiet_skip | (go_big_quiet_want; first | (go_big_quiet_op; first | go_big_quiet_on | ((first | with_reducible refine ⟨_, fun _ _ => rfl, ?_⟩); go_big_quiet_on)) | (simp (contextual := true) [go_sem, F0]; with_reducible refine ⟨_, fun _ _ => rfl, ?_⟩; go_big_quiet_on)))); refine wpQuiet_nil ?_
  go_wp2_with fail
  refine ⟨rfl, _, rfl, .tuple #[], results_none rfl _ _ _, rfl, rfl, ?_, ?_, ?_, ?_⟩
  · exact kb0.out.far (p := ⟨gf, 0, none⟩) HD.out.2.1 _
  · exact kb1.out.far (p := ⟨gf, 0, none⟩) HD.out.2.2 _
  · simpa using kb2.out.set_ 0 (.int .i64 4)
  · have h1 : Below m w wb := by
      rw [HWB.out, HWA.out]
      exact ((B1.out.setCell (p := ⟨gp, 0, none⟩) HMM.out.1 _).drew).setCell (p := ⟨ga, 0, none⟩) HMM.out.2.1 _
    exact h1.setCell (p := ⟨gf, 0, none⟩) HMM.out.2.2.1 _
end Go.Proofs.YthcbceaeobnmgaaDoor
namespace Go.Proofs.YthcbceaeobnmgaaDoor
open Go.RowKit
/-- What Parse hands back. -/
def ParseIs (w : World) (l : List Nat) (e : Ending) (w' : World) : Prop :=
  (match rdP l with
    | .ok fs _ => ∃ X c', e = .returned (.tuple #[.agg #[.slice X fs.length c'], .int .i64 0, .int .i64 0]) ∧ FnsNew w' w.heap.size X fs
    | .bad q => e = .returned (.tuple #[.agg #[.slice none 0 0], .int .i64 q, .int .i64 4])) ∧ Below w.heap.size w w'
/-- What holds in Parse's loop. -/
structure ParInv (w wr : World) (m g : Nat) (A : Option Addr) (n c : Nat) (l : List Nat) (q k : Nat) (fs : List Fn) (al : List FnA) (X : Option Addr) (cx : Nat) : Prop where
  rdr : Rdr wr m g A n c l q
  prog : Blk wr m 24 #[.slice X k cx]
  place : Blk wr (m + 1) 3 #[.int .i64 0]
  fault : Blk wr (m + 2) 36 #[.int .i64 0]
  own : Own wr (g + 1) 31 2 X k cx (al.flatMap fnaVals)
  fns : FnsAt wr (Off wr g X) al fs
  below : Below m w wr
  tab : Tab wr
set_option maxHeartbeats 4000000 in
theorem codeParse_any (A : Option Addr) (n c : Nat) (l : List Nat) (w : World) (hT : Tab w) (hl : l.length = n) (hcap : n ≤ c) (hm : c ≤ maxLen) (hx : ∀ x ∈ l, x < 256) (h3 : n ≤ 65536) (hr : Row w w.heap.size A (byteVals l)) :
    Calls Tryd.prog 16 #[.slice A n c] w fun e w' => ParseIs w l e w' := by
  have hmf : ∀ (fn : Go.Fn) (first cap : Array Value) (w : World), (Instr.makeFunc fn first cap).run Tryd.prog w = .ok (.func fn first cap) w := fun _ _ _ _ => rfl
  have hmz : ∃ m : Nat, Hid (m = w.heap.size) := ⟨_, rfl⟩
  obtain ⟨m, HM⟩ := hmz
  have hgz : ∃ g : Nat, Hid (g = w.heap.size + 3) := ⟨_, rfl⟩
  obtain ⟨g, HG⟩ := hgz
  have hWz : ∃ W : World, Hid (W = (((w.alloc (.cells #[.slice none 0 0] 24)).alloc (.cells #[.int .i64 0] 3)).alloc (.cells #[.int .i64 0] 36)).alloc (.cells #[.slice A n c, .int .i64 0] 65)) := ⟨_, rfl⟩
  obtain ⟨W, HW⟩ := hWz
  have B1 : Below w.heap.size w (w.alloc (.cells #[.slice none 0 0] 24)) := (Below.refl _ _).alloc (Nat.le_refl _) _
  have B2 := B1.alloc (by simp) (.cells #[.int .i64 0] 3)
  have B3 := B2.alloc (by simp; omega) (.cells #[.int .i64 0] 36)
  have B4 := B3.alloc (by simp; omega) (.cells #[.slice A n c, .int .i64 0] 65)
  have HI0 := Lib.hid (show ParInv w W m g A n c l 0 0 [] [] none 0 by
    rw [HM.out, HG.out, HW.out]
    refine ⟨⟨?_, hr.below B4, by omega, hl, hcap, hm, hx, by omega, h3⟩, ?_, ?_, ?_, Own.nil _ _ _ _, FnsAt.nil _ _, B4, hT.step B4⟩
    · have h := Blk.new (((w.alloc (.cells #[.slice none 0 0] 24)).alloc (.cells #[.int .i64 0] 3)).alloc (.cells #[.int .i64 0] 36)) 65 #[.slice A n c, .int .i64 0]
      simpa using h
    · exact (((Blk.new w _ _).alloc _).alloc _).alloc _
    · have h := Blk.new (w.alloc (.cells #[.slice none 0 0] 24)) 3 #[.int .i64 0]
      rw [World.size_alloc] at h
      exact (h.alloc _).alloc _
    · have h := Blk.new ((w.alloc (.cells #[.slice none 0 0] 24)).alloc (.cells #[.int .i64 0] 3)) 36 #[.int .i64 0]
      simp only [World.size_alloc] at h
      exact h.alloc _)
  have h0m : 0 < m := by rw [HM.out]; exact hT.pos
  clear B1 B2 B3 B4 hr hl hx hT hcap hm
  go_enter_defers Tryd.func16, Tryd.ntmps16
  go_wp2_with fail
  rw [← HW.out, ← HM.out, show m + 1 + 1 + 1 = g by rw [HG.out, HM.out], show m + 1 + 1 = m + 2 from rfl]
  have HGM := Lib.hid (show g = m + 3 by rw [HG.out, HM.out])
  have HU := Lib.hid (upto_any HI0.out.rdr 16)
  by_cases h1 : n = 0
  · have HE := Lib.hid (show rdP l = .bad n by unfold rdP; rw [if_pos (by rw [HI0.out.rdr.len]; exact h1), h1])
    simp only [if_pos (show l.length ≤ 0 by rw [HI0.out.rdr.len]; omega)] at HU
    clear h1
    refine HU.out.mono ?_
    rintro e w1 ⟨rfl, hg⟩
    have HK0 := Lib.hid (HI0.out.prog.grown hg (by intro e; injection e with e; have := HGM.out; omega))
    have HK1 := Lib.hid (HI0.out.place.grown hg (by intro e; injection e with e; have := HGM.out; omega))
    have HK2 := Lib.hid (HI0.out.fault.grown hg (by intro e; injection e with e; have := HGM.out; omega))
    have HBM := Lib.hid (HI0.out.below.trans ((mv_low hg HI0.out.rdr.blk.lt).mono (by have := HGM.out; omega)))
    clear hg
    go_wp2_with fail
    refine leaves_cons (f := 36) (args := #[.pointer (some ⟨m, 0, none⟩), .pointer (some ⟨m + 1, 0, none⟩), .pointer (some ⟨m + 2, 0, none⟩)]) (by simp) (by simp [go_sem]) ?_
    refine (catch_wrong m (m + 1) (m + 2) n _ _ _ [] w1 HK0.out HK1.out HK2.out (by omega) m (by have := HK0.out.lt; omega)).mono ?_
    rintro e u' wz ⟨rfl, rfl, p0, p1, p2, hbz⟩
    have d0 := p0.cell 0
    have d1 := p1.cell 0
    have d2 := p2.cell 0
    simp only [List.getElem?_toArray, List.getElem?_cons_zero] at d0 d1 d2
    have hpi : ParseIs w l (.returned (.tuple #[.agg #[.slice none 0 0], .int .i64 n, .int .i64 4])) wz := by
      unfold ParseIs
      rw [HE.out, ← HM.out]
      exact ⟨rfl, HBM.out.trans hbz⟩
    clear p0 p1 p2 hbz
    simp [Leaves, settle, results, Tryd.results16, go_sem, d0, d1, d2]
    exact hpi
  · have hn0 : ¬ l.length = 0 := by rw [HI0.out.rdr.len]; exact h1
    simp only [if_neg (show ¬ l.length ≤ 0 by omega)] at HU
    have hx : ∃ x : Nat, Hid (x = l.getD 0 0) := ⟨_, rfl⟩
    obtain ⟨x, HX⟩ := hx
    rw [← HX.out] at HU
    by_cases h16 : 16 < x
    · have HE := Lib.hid (show rdP l = .bad 0 by unfold rdP; rw [if_neg hn0, ← HX.out, if_pos h16])
      simp only [if_pos h16] at HU
      clear h1 hn0
      refine HU.out.mono ?_
      rintro e w1 ⟨rfl, hg⟩
      have HK0 := Lib.hid (HI0.out.prog.grown hg (by intro e; injection e with e; have := HGM.out; omega))
      have HK1 := Lib.hid (HI0.out.place.grown hg (by intro e; injection e with e; have := HGM.out; omega))
      have HK2 := Lib.hid (HI0.out.fault.grown hg (by intro e; injection e with e; have := HGM.out; omega))
      have HBM := Lib.hid (HI0.out.below.trans ((mv_low hg HI0.out.rdr.blk.lt).mono (by have := HGM.out; omega)))
      clear hg
      go_wp2_with fail
      refine leaves_cons (f := 36) (args := #[.pointer (some ⟨m, 0, none⟩), .pointer (some ⟨m + 1, 0, none⟩), .pointer (some ⟨m + 2, 0, none⟩)]) (by simp) (by simp [go_sem]) ?_
      refine (catch_wrong m (m + 1) (m + 2) 0 _ _ _ [] w1 HK0.out HK1.out HK2.out (by omega) m (by have := HK0.out.lt; omega)).mono ?_
      rintro e u' wz ⟨rfl, rfl, p0, p1, p2, hbz⟩
      have d0 := p0.cell 0
      have d1 := p1.cell 0
      have d2 := p2.cell 0
      simp only [List.getElem?_toArray, List.getElem?_cons_zero] at d0 d1 d2
      have hpi : ParseIs w l (.returned (.tuple #[.agg #[.slice none 0 0], .int .i64 ((0 : Nat) : Int), .int .i64 4])) wz := by
        unfold ParseIs
        rw [HE.out, ← HM.out]
        exact ⟨rfl, HBM.out.trans hbz⟩
      clear p0 p1 p2 hbz
      simp [Leaves, settle, results, Tryd.results16, go_sem, d0, d1, d2]
      exact hpi
    · have HE0 := Lib.hid (show rdP l = match rdFs l 1 x with
        | .bad q => .bad q
        | .ok fs q => if q < l.length then .bad q else .ok fs 0 by unfold rdP; rw [if_neg hn0, ← HX.out, if_neg h16]; rfl)
      simp only [if_neg h16] at HU
      have hn1 : 0 + 1 ≤ n := by omega
      clear h1 hn0
      refine HU.out.mono ?_
      rintro e w1 ⟨rfl, hm1⟩
      have HI1 := Lib.hid (show ParInv w w1 m g A n c l 1 0 [] [] none 0 from
        ⟨HI0.out.rdr.moved hm1 hn1, HI0.out.prog.grown hm1.2 (by intro e; injection e with e; have := HGM.out; omega), HI0.out.place.grown hm1.2 (by intro e; injection e with e; have := HGM.out; omega), HI0.out.fault.grown hm1.2 (by intro e; injection e with e; have := HGM.out; omega), Own.nil _ _ _ _, FnsAt.nil _ _, HI0.out.below.trans ((mv_low hm1.2 HI0.out.rdr.blk.lt).mono (by have := HGM.out; omega)), HI0.out.tab.keep (mv_low hm1.2 HI0.out.rdr.blk.lt) (by have := HGM.out; omega)⟩)
      clear hm1
      go_wp2_with fail
      obtain ⟨i0, hi, hz0, hz1, hz2⟩ := info_parts Tryd.infoFn7
      have HI5 := Lib.hid hi
      have HZ0 := Lib.hid hz0
      have HZ1 := Lib.hid hz1
      have HZ2 := Lib.hid hz2
      clear hi hz0 hz1 hz2
      go_loopw [12] (fun vi wr => ∃ (k q : Nat) (fs : List Fn) (al : List FnA) (X : Option Addr) (cx : Nat), k ≤ x ∧ vi = .int .i64 k ∧ Hid (rdFs l 1 k = .ok fs q ∧ ParInv w wr m g A n c l q k fs al X cx)) (fun vi _ => x - (intOf vi).toNat)
      case atStart => exact ⟨0, 1, [], [], none, 0, by omega, rfl, Lib.hid ⟨rfl, HI1.out⟩⟩
      case round =>
        obtain ⟨k, q, fs, al, X, cx, hk, rfl, HI⟩ := hrel
        clear HI1 HU HI0
        have q0 := HI.out.2.prog.cell 0
        simp only [List.getElem?_toArray, List.getElem?_cons_zero] at q0
        have HZ := Lib.hid HI.out.2.prog.lt
        by_cases hlt : k < x
        · have F0 : ∀ w' : World, S1c m (.slice X k cx) w' → w'.cell? ⟨m, 0, none⟩ = some (.slice X k cx) := fun _ h => h
          have HS := Lib.hid (show ∀ w', Below wr.heap.size wr w' → S1c m (.slice X k cx) w' from fun w' h => (h.cell (p := ⟨m, 0, none⟩) HZ.out).trans q0)
          clear q0
          go_wp2_with fail
          refine region_schED (S1c m (.slice X k cx)) [([0, 1, 2], 3), ([], 4), ([], 5)] [6] 7 (by kernel_rfl) (by kernel_rfl) (by kernel_rfl) (fun k o ho c a v w' h => by have hm := Array.mem_of_getElem? ho; simp only [List.mem_toArray, List.mem_cons, List.not_mem_nil, or_false] at hm; rcases hm with rfl | rfl | rfl | rfl | rfl | rfl | rfl | rfl <;> exact leaves_put (P := Tryd.prog) (R := fun e w' => ParseIs w l e w') (fn := Tryd.f16) (fun w => by simp [results, Tryd.results16, Act.put]) h) (HS.out _ (Below.refl _ _).drew) ?_
          (try simp only [Act.put, List.setIfInBounds_toArray, List.set_cons_zero, List.set_cons_succ]); refine schE_seg ?_; simp only [pickOps, List.getElem?_toArray, List.getElem?_cons_zero, List.getElem?_cons_succ]; (repeat (first | go_big_quiet_skip | (go_big_quiet_want; first | (go_big_quiet_op; first | go_big_quiet_on | ((first | with_reducible refine ⟨_, fun _ _ => rfl, ?_⟩); go_big_quiet_on)) | (simp (contextual := true) [go_sem, F0]; with_reducible refine ⟨_, fun _ _ => rfl, ?_⟩; go_big_quiet_on)))); refine wpQuiet_nil ?_
          go_wp2_with fail
          have hbd : Below wr.heap.size wr wr.drew := (Below.refl _ _).drew
          have HID := Lib.hid (show ParInv w wr.drew m g A n c l q k fs al X cx from
            ⟨HI.out.2.rdr.below hbd, HI.out.2.prog.below hbd HI.out.2.prog.lt, HI.out.2.place.below hbd HI.out.2.place.lt, HI.out.2.fault.below hbd HI.out.2.fault.lt, HI.out.2.own, HI.out.2.fns.below hbd, HI.out.2.below.trans (hbd.mono (by have := HZ.out; omega)), HI.out.2.tab.step hbd⟩)
          clear hbd
          refine (fn_any HID.out.rdr HID.out.tab h0m).mono ?_
          intro e w2 hout
          have hr : ∃ r, Hid (rdF l q = r) := ⟨_, rfl⟩
          obtain ⟨r, HR⟩ := hr
          rw [HR.out] at hout
          cases r with
          | bad q2 =>
            obtain ⟨he, hg⟩ := hout
            unfold Bad at he
            subst he
            have HE := Lib.hid (show rdP l = .bad q2 by
              rw [HE0.out, rdFs_bad l 1 (k + 1) x q2 (by unfold rdFs; rw [HI.out.1]; simp only; rw [HR.out]) (by omega)])
            have HK0 := Lib.hid (HID.out.prog.grown hg (by intro e; injection e with e; have := HGM.out; omega))
            have HK1 := Lib.hid (HID.out.place.grown hg (by intro e; injection e with e; have := HGM.out; omega))
            have HK2 := Lib.hid (HID.out.fault.grown hg (by intro e; injection e with e; have := HGM.out; omega))
            have HBM := Lib.hid (HID.out.below.trans ((mv_low hg HID.out.rdr.blk.lt).mono (by have := HGM.out; omega)))
            clear hg
            go_wp2_with fail
            refine leaves_cons (f := 36) (args := #[.pointer (some ⟨m, 0, none⟩), .pointer (some ⟨m + 1, 0, none⟩), .pointer (some ⟨m + 2, 0, none⟩)]) (by simp) (by simp [go_sem]) ?_
            refine (catch_wrong m (m + 1) (m + 2) q2 _ _ _ [] w2 HK0.out HK1.out HK2.out (by omega) m (by have := HK0.out.lt; omega)).mono ?_
            rintro e u' wz ⟨rfl, rfl, p0, p1, p2, hbz⟩
            have d0 := p0.cell 0
            have d1 := p1.cell 0
            have d2 := p2.cell 0
            simp only [List.getElem?_toArray, List.getElem?_cons_zero] at d0 d1 d2
            have hpi : ParseIs w l (.returned (.tuple #[.agg #[.slice none 0 0], .int .i64 q2, .int .i64 4])) wz := by
              unfold ParseIs
              rw [HE.out, ← HM.out]
              exact ⟨rfl, HBM.out.trans hbz⟩
            clear p0 p1 p2 hbz
            simp [Leaves, settle, results, Tryd.results16, go_sem, d0, d1, d2]
            exact hpi
          | ok f q2 =>
            obtain ⟨⟨v, he, ⟨a, hv, hf⟩⟩, hm2⟩ := hout
            obtain ⟨C, fn, fc, S, fm, fd⟩ := a
            subst he hv
            have HRC := Lib.hid (show rdFs l 1 (k + 1) = .ok (fs ++ [f]) q2 by unfold rdFs; rw [HI.out.1]; simp only; rw [HR.out])
            have hq2 : q2 ≤ n := by
              have h1 := rdF_in l q (by have := HID.out.rdr.len; have := HID.out.rdr.pos; omega)
              rw [HR.out] at h1
              have h2 : q2 ≤ l.length := h1
              rw [HID.out.rdr.len] at h2
              exact h2
            have hgm := HGM.out
            have hlow2 : Below m wr.drew w2 := (mv_low hm2.2 HID.out.rdr.blk.lt).mono (by omega)
            have HI2 := Lib.hid (show ParInv w w2 m g A n c l q2 k fs al X cx from
              ⟨HID.out.rdr.moved hm2 hq2, HID.out.prog.grown hm2.2 (by intro e; injection e with e; omega), HID.out.place.grown hm2.2 (by intro e; injection e with e; omega), HID.out.fault.grown hm2.2 (by intro e; injection e with e; omega), HID.out.own.kept hm2.2 (HID.out.own.ne_lt (by omega)),
               (HID.out.fns.keep (fun b hb => hm2.2.block b hb.1 (by intro e; injection e with e; have := hb.2.1; omega))).mono (fun b hb => ⟨Nat.lt_of_lt_of_le hb.1 hm2.2.size, hb.2⟩), HID.out.below.trans hlow2, HID.out.tab.keep (mv_low hm2.2 HID.out.rdr.blk.lt) (by omega)⟩)
            have HF2 := Lib.hid (show FnS w2 (Off w2 g X) ⟨C, fn, fc, S, fm, fd⟩ f from hf.mono (fun b hb => ⟨hb.2, by have := HID.out.rdr.blk.lt; omega, fun e => by have := (HID.out.own.lt b e).2; omega⟩))
            have q0 := HI2.out.prog.cell 0
            simp only [List.getElem?_toArray, List.getElem?_cons_zero] at q0
            have C0 := Lib.hid (show S1c m (.slice X k cx) w2 from q0)
            clear hm2 q0 hf hgm hlow2
            have hgn : ∃ gn : Nat, Hid (gn = w2.heap.size) := ⟨_, rfl⟩
            obtain ⟨gn, HGN⟩ := hgn
            have hw3 : ∃ w3 : World, Hid (w3 = w2.alloc (.cells #[.slice C fn fc, .slice S fm fd] 31)) := ⟨_, rfl⟩
            obtain ⟨w3, HW3⟩ := hw3
            go_wp2_with fail
            refine ⟨S1c m (.slice X k cx), C0.out, fun _ h => h, ?_⟩
            (try simp only [Act.put, List.setIfInBounds_toArray, List.set_cons_zero, List.set_cons_succ]); refine schE_seg ?_; simp only [pickOps, List.getElem?_toArray, List.getElem?_cons_zero, List.getElem?_cons_succ]; (repeat (first | go_big_quiet_skip | (go_big_quiet_want; first | (go_big_quiet_op; first | go_big_quiet_on | ((first | with_reducible refine ⟨_, fun _ _ => rfl, ?_⟩); go_big_quiet_on)) | (simp (contextual := true) [go_sem, F0]; with_reducible refine ⟨_, fun _ _ => rfl, ?_⟩; go_big_quiet_on)))); refine wpQuiet_nil ?_
            go_wp2_with fail
            rw [← HW3.out, ← HGN.out]
            have hb3 : Below w2.heap.size w2 w3 := by rw [HW3.out]; exact (Below.refl _ _).alloc (Nat.le_refl _) _
            have HI3 := Lib.hid (show ParInv w w3 m g A n c l q2 k fs al X cx from
              ⟨HI2.out.rdr.below hb3, HI2.out.prog.below hb3 HI2.out.prog.lt, HI2.out.place.below hb3 HI2.out.place.lt, HI2.out.fault.below hb3 HI2.out.fault.lt, (by rw [HW3.out]; exact HI2.out.own.alloc _), HI2.out.fns.below hb3, HI2.out.below.trans (hb3.mono (by have := HI2.out.prog.lt; omega)), HI2.out.tab.step hb3⟩)
            have HBX := Lib.hid (show ∀ j u, (fnaVals ⟨C, fn, fc, S, fm, fd⟩)[j]? = some u → w3.cell? ((⟨gn, 0, none⟩ : Addr).add j) = some u by
              have hb := Blk.new w2 31 #[.slice C fn fc, .slice S fm fd]
              rw [← HW3.out, ← HGN.out] at hb
              intro j u hu
              rw [Addr.add_lit, Nat.zero_add, hb.cell j]
              rw [List.getElem?_toArray]; exact hu)
            have C3 := Lib.hid (show S1c m (.slice X k cx) w3 by
              have q0 := HI3.out.prog.cell 0
              simp only [List.getElem?_toArray, List.getElem?_cons_zero] at q0
              exact q0)
            have HZ3 := Lib.hid (show g + 1 ≤ w3.heap.size from HI3.out.rdr.blk.lt)
            have c1' : Hid (k + 1 ≤ maxLen) := by unfold maxLen; show _ ≤ _; omega
            clear hb3
            refine ⟨S1c m (.slice X k cx), C3.out, fun _ h => h, ?_⟩
            (try simp only [Act.put, List.setIfInBounds_toArray, List.set_cons_zero, List.set_cons_succ]); refine schE_seg ?_; simp only [pickOps, List.getElem?_toArray, List.getElem?_cons_zero, List.getElem?_cons_succ]; (repeat (first | go_big_quiet_skip | (go_big_quiet_want; first | (go_big_quiet_op; first | go_big_quiet_on | ((first | with_reducible refine ⟨_, fun _ _ => rfl, ?_⟩); go_big_quiet_on)) | (simp (contextual := true) [go_sem, F0]; with_reducible refine ⟨_, fun _ _ => rfl, ?_⟩; go_big_quiet_on)))); refine wpQuiet_nil ?_
            go_wp2_with (at_builtin; go_must (refine wpList_append_1 _ rfl _ _ 22 rfl (g + 1) 31 i0 _ 2 48 Tryd.underlying22 HI5.out HZ0.out HZ1.out HZ2.out rfl (by decide) _ _ _ _ rfl HI3.out.own ⟨gn, 0, none⟩ 1 (fnaVals ⟨C, fn, fc, S, fm, fd⟩) rfl rfl HBX.out (by simp [fnaVals, Value.oneCell']) c1'.out (by omega) HZ3.out ?_); intro A' c2' w5 hown1 hgrow1 hat1)
            have hP5 : Blk w5 m 24 #[.slice X k cx] := HI3.out.prog.grown hgrow1 (fun e => by have := HI3.out.own.lt m e.symm; have := HGM.out; omega)
            have HB5 := Lib.hid hP5
            have HOW := Lib.hid hown1
            have HGR := Lib.hid hgrow1
            have HAT := Lib.hid hat1
            have q5 := hP5.cell 0
            simp only [List.getElem?_toArray, List.getElem?_cons_zero] at q5
            have f5 := hP5.frozen 0
            have C5 := Lib.hid (show S1c m (.slice X k cx) w5 from q5)
            clear hP5 hown1 hgrow1 hat1
            refine ⟨S1c m (.slice X k cx), C5.out, fun _ h => h, ?_⟩
            (try simp only [Act.put, List.setIfInBounds_toArray, List.set_cons_zero, List.set_cons_succ]); refine schE_last ?_; simp only [pickOps, List.getElem?_toArray, List.getElem?_cons_zero, List.getElem?_cons_succ]; (repeat (first | go_big_quiet_skip | (go_big_quiet_want; first | (go_big_quiet_op; first | go_big_quiet_on | ((first | with_reducible refine ⟨_, fun _ _ => rfl, ?_⟩); go_big_quiet_on)) | (simp (contextual := true) [go_sem, F0]; with_reducible refine ⟨_, fun _ _ => rfl, ?_⟩; go_big_quiet_on)))); refine wpQuiet_nil ?_
            clear F0
            go_wp2_with fail
            have hgm := HGM.out
            have hz3 := HZ3.out
            have HLOW := Lib.hid (show Below (g + 1) w3 w5 from low_of HGR.out (fun j hj => (HI3.out.own.lt j hj).1) hz3)
            have HPUSH := Lib.hid (show FnsAt w5 (Off w5 g A') (al ++ [⟨C, fn, fc, S, fm, fd⟩]) (fs ++ [f]) from
              FnsAt.push (wr := w2) (o := .cells #[.slice C fn fc, .slice S fm fd] 31) HI2.out.fns HF2.out (by rw [← HW3.out]; exact HGR.out) (by rw [← HW3.out]; exact HAT.out))
            go_roundw
            case rel =>
              refine ⟨k + 1, q2, fs ++ [f], al ++ [⟨C, fn, fc, S, fm, fd⟩], A', c2', by omega, by go_num, Lib.hid ⟨HRC.out, ?_, ?_, ?_, ?_, ?_, ?_, ?_, ?_⟩⟩
              · have h1 := HI3.out.rdr.low HLOW.out (by omega)
                exact ⟨h1.blk.far (p := ⟨m, 0, none⟩) (show g ≠ m by omega) _, h1.row.keep (fun p hp => World.cell?_of_block (Below.heap_setCell w5 ⟨m, 0, none⟩ _ p.block (show p.block ≠ m by omega))), h1.lt, h1.len, h1.cap, h1.capm, h1.byte, h1.pos, h1.small⟩
              · simpa using HB5.out.set_ 0 (.slice A' (k + 1) c2')
              · exact (HI3.out.place.below HLOW.out (by omega)).far (p := ⟨m, 0, none⟩) (show m + 1 ≠ m by omega) _
              · exact (HI3.out.fault.below HLOW.out (by omega)).far (p := ⟨m, 0, none⟩) (show m + 2 ≠ m by omega) _
              · rw [List.flatMap_append]
                simpa using HOW.out.setCell ⟨m, 0, none⟩ (.slice A' (k + 1) c2') (HOW.out.ne_lt (show m < g + 1 by omega))
              · exact (HPUSH.out.keep (fun b hS => Below.heap_setCell _ _ _ _ (show b ≠ m by have := hS.2.1; omega))).mono (fun b hS => ⟨by simpa [World.setCell] using hS.1, hS.2⟩)
              · exact (HI3.out.below.trans (HLOW.out.mono (by omega))).setCell (p := ⟨m, 0, none⟩) (Nat.le_refl _) _
              · exact HI3.out.tab.keep ((HLOW.out.mono (show m ≤ g + 1 by omega)).setCell (p := ⟨m, 0, none⟩) (Nat.le_refl _) _) h0m
            case measure => simp [intOf]; omega
        · have hkx : k = x := by omega
          subst hkx
          obtain ⟨r0, r1⟩ := HI.out.2.rdr.cells
          have hq : q ≤ n := HI.out.2.rdr.pos
          have p1 := HI.out.2.place.cell 0
          have p2 := HI.out.2.fault.cell 0
          simp only [List.getElem?_toArray, List.getElem?_cons_zero] at p1 p2
          by_cases hqn : q < n
          · have HE := Lib.hid (show rdP l = .bad q by rw [HE0.out, HI.out.1]; simp only; rw [if_pos (by rw [HI.out.2.rdr.len]; exact hqn)])
            have HK0 := Lib.hid HI.out.2.prog
            have HK1 := Lib.hid HI.out.2.place
            have HK2 := Lib.hid HI.out.2.fault
            have HBM := Lib.hid HI.out.2.below
            go_wp2_with fail
            refine leaves_cons (f := 36) (args := #[.pointer (some ⟨m, 0, none⟩), .pointer (some ⟨m + 1, 0, none⟩), .pointer (some ⟨m + 2, 0, none⟩)]) (by simp) (by simp [go_sem]) ?_
            refine (catch_wrong m (m + 1) (m + 2) q _ _ _ [] wr HK0.out HK1.out HK2.out (by omega) m (by have := HK0.out.lt; omega)).mono ?_
            rintro e u' wz ⟨rfl, rfl, p0, p1, p2, hbz⟩
            have d0 := p0.cell 0
            have d1 := p1.cell 0
            have d2 := p2.cell 0
            simp only [List.getElem?_toArray, List.getElem?_cons_zero] at d0 d1 d2
            have hpi : ParseIs w l (.returned (.tuple #[.agg #[.slice none 0 0], .int .i64 q, .int .i64 4])) wz := by
              unfold ParseIs
              rw [HE.out, ← HM.out]
              exact ⟨rfl, HBM.out.trans hbz⟩
            clear p0 p1 p2 hbz
            simp [Leaves, settle, results, Tryd.results16, go_sem, d0, d1, d2]
            exact hpi
          · have HE := Lib.hid (show rdP l = .ok fs 0 by rw [HE0.out, HI.out.1]; simp only; rw [if_neg (by rw [HI.out.2.rdr.len]; exact hqn)])
            have f0 := HI.out.2.prog.frozen 0
            have f1 := HI.out.2.place.frozen 0
            have f2 := HI.out.2.fault.frozen 0
            have hqn' : q = n := by omega
            go_wp2_with fail
            refine leaves_cons (f := 36) (args := #[.pointer (some ⟨m, 0, none⟩), .pointer (some ⟨m + 1, 0, none⟩), .pointer (some ⟨m + 2, 0, none⟩)]) (by simp) (by simp [go_sem]) ?_
            refine (catch_idle m (m + 1) (m + 2) _).mono ?_
            rintro e u' wz ⟨rfl, rfl, rfl⟩
            have hnew : FnsNew wr (g + 1) X fs := ⟨al, HI.out.2.fns.mono (fun b hb => ⟨by have := hb.2.1; omega, hb.1⟩), HI.out.2.own.rowS⟩
            have hpi : ParseIs w l (.returned (.tuple #[.agg #[.slice X k cx], .int .i64 0, .int .i64 0])) (((wr.setCell ⟨m, 0, none⟩ (.slice X k cx)).setCell ⟨m + 1, 0, none⟩ (.int .i64 0)).setCell ⟨m + 2, 0, none⟩ (.int .i64 0)) := by
              unfold ParseIs
              have hgm := HGM.out
              have hlen : k = fs.length := (rdFs_len l 1 k fs q HI.out.1).symm
              rw [HE.out, ← HM.out]
              refine ⟨⟨X, cx, by rw [hlen], ?_⟩, ?_⟩
              · exact (((hnew.far (p := ⟨m, 0, none⟩) (show m < g + 1 by omega) _).far (p := ⟨m + 1, 0, none⟩) (show m + 1 < g + 1 by omega) _).far (p := ⟨m + 2, 0, none⟩) (show m + 2 < g + 1 by omega) _).base (by omega)
              · exact ((HI.out.2.below.setCell (p := ⟨m, 0, none⟩) (Nat.le_refl _) _).setCell (p := ⟨m + 1, 0, none⟩) (show m ≤ m + 1 by omega) _).setCell (p := ⟨m + 2, 0, none⟩) (show m ≤ m + 2 by omega) _
            clear hnew
            simp [Leaves, settle, results, Tryd.results16, go_sem, q0, p1, p2]
            exact hpi
end Go.Proofs.YthcbceaeobnmgaaDoor
namespace Go.Proofs.YthcbceaeobnmgaaDoor
open Go.RowKit
theorem own_cap {w : World} {base : Nat} {e : TypeId} {size n c : Nat} {A : Option Addr} {xs : List Value} (h : Own w base e size A n c xs) : n ≤ c ∧ c ≤ maxLen := by
  rcases h.2 with ⟨hv, hn⟩ | ⟨g, cap, cur, hv, _, _, h1, h2, _⟩
  · injection hv with h1 h2 h3
    subst h2 h3
    exact ⟨Nat.le_refl _, by unfold maxLen; omega⟩
  · injection hv with h3 h4 h5
    subst h5
    exact ⟨h1, h2⟩
theorem fns_i64 {w : World} {B : Nat} {A : Option Addr} {fs : List Fn} (h : FnsOk w B A fs) : ∀ f ∈ fs, ∀ i ∈ f.code, I64 i.n := by
  intro f hf i hi
  obtain ⟨k, hk, rfl⟩ := List.mem_iff_getElem.1 hf
  obtain ⟨_, _, _, _, _, _, _, h7⟩ := h.at_ k hk
  exact (h7.2.2.2.2.2.2 i hi).2.2.2.2
theorem progB_le {fs : List Fn} (h : printOk fs = true) : (progB fs).length ≤ 65536 := by
  obtain ⟨h1, h2⟩ := printOk_of h
  have h3 := flat_le fnB 800 fs (fun f hf => fnB_le (h2 f hf).1 (h2 f hf).2.1)
  unfold progB
  rw [List.length_cons]
  omega
set_option maxHeartbeats 4000000 in
set_option maxRecDepth 100000 in
theorem back07 (A A' : Option Addr) (c n c' : Nat) (fs : List Fn) (l : List Nat) (w : World) (hT : Tab w) (hm : fs.length ≤ maxLen) (hf : FnsOk w w.heap.size A fs) (hl : l.length = n) (hcap : n ≤ c') (hm' : c' ≤ maxLen) (hx : ∀ x ∈ l, x < 256) (hr : Row w w.heap.size A' (byteVals l)) :
    Calls Tryd.prog 6 #[.agg #[.slice A fs.length c], .slice A' n c'] w fun e w' => e = .returned (.bool true) ∧ Below w.heap.size w w' := by
  have hWz : ∃ W : World, Hid (W = w.alloc (.cells #[.slice A fs.length c] 24)) := ⟨_, rfl⟩
  obtain ⟨W, HW⟩ := hWz
  have HB0 := Lib.hid (show Below w.heap.size w W by rw [HW.out]; exact (Below.refl _ _).alloc (Nat.le_refl _) _)
  have HBP0 := Lib.hid (show Blk W w.heap.size 24 #[.slice A fs.length c] by rw [HW.out]; exact Blk.new w _ _)
  have HT := Lib.hid hT
  have HF := Lib.hid hf
  have HM0 := Lib.hid hm
  have HL := Lib.hid hl
  have HC := Lib.hid (And.intro hcap hm')
  have HX := Lib.hid hx
  have HR := Lib.hid hr
  have HI64 := Lib.hid (fns_i64 hf)
  clear hT hm hf hl hcap hm' hx hr
  go_enter Tryd.func6, Tryd.ntmps6
  go_wp2_with fail
  rw [← HW.out]
  refine (light_any A c fs W HM0.out (HF.out.step HB0.out)).mono ?_
  rintro e w1 ⟨rfl, hb1⟩
  have HB1 := Lib.hid (HB0.out.trans (hb1.mono HB0.out.size))
  have HP1 := Lib.hid (HBP0.out.below hb1 HBP0.out.lt)
  have kp := HP1.out.cell 0
  simp only [List.getElem?_toArray, List.getElem?_cons_zero] at kp
  clear hb1
  cases hlt : lightP fs with
  | false =>
    clear hlt
    go_wp2_with fail
    refine (alive07 w1 (HT.out.step HB1.out)).mono ?_
    rintro e w9 ⟨rfl, hb⟩
    have HB9 := Lib.hid (HB1.out.trans (hb.mono HB1.out.size))
    clear hb
    go_wp2_with fail
    go_ret
    exact ⟨rfl, HB9.out⟩
  | true =>
    clear hlt
    by_cases h3 : 3000 < n
    · go_wp2_with fail
      refine (alive07 w1 (HT.out.step HB1.out)).mono ?_
      rintro e w9 ⟨rfl, hb⟩
      have HB9 := Lib.hid (HB1.out.trans (hb.mono HB1.out.size))
      clear hb
      go_wp2_with fail
      go_ret
      exact ⟨rfl, HB9.out⟩
    · go_wp2_with fail
      refine (print_any A c fs w1 (HT.out.step HB1.out) HM0.out (HF.out.step HB1.out)).mono ?_
      rintro e w2 ⟨hp, hb2⟩
      have HB2 := Lib.hid (HB1.out.trans (hb2.mono HB1.out.size))
      have HP2 := Lib.hid (HP1.out.below hb2 HP1.out.lt)
      clear kp hb2
      have kp := HP2.out.cell 0
      simp only [List.getElem?_toArray, List.getElem?_cons_zero] at kp
      unfold PrintOut at hp
      by_cases hpo : printOk fs = true
      · rw [if_pos hpo] at hp
        obtain ⟨X, cx, rfl, hown⟩ := hp
        have HCX := Lib.hid (own_cap hown)
        have HRX := Lib.hid hown.row
        have HRD := Lib.hid (rdP_print hpo HI64.out)
        have HLE := Lib.hid (progB_le hpo)
        have HLT := Lib.hid (progB_lt (by unfold printOk at hpo; exact (Bool.and_eq_true _ _ ▸ hpo).1))
        clear hpo hown
        have hbx : ∃ bx : List Nat, Hid (bx = progB fs) := ⟨_, rfl⟩
        obtain ⟨bx, HBX⟩ := hbx
        rw [← HBX.out] at HCX HRX HRD HLE HLT ⊢
        go_wp2_with fail
        refine (codeParse_any X bx.length cx bx w2 (HT.out.step HB2.out) rfl HCX.out.1 HCX.out.2 HLT.out HLE.out HRX.out).mono ?_
        intro e w3 hpar
        obtain ⟨hpar, hb3⟩ := hpar
        rw [HRD.out] at hpar
        obtain ⟨Y, cy, rfl, hnew⟩ := hpar
        have HB3 := Lib.hid (show Below w.heap.size w (w3.alloc (.cells #[.slice Y fs.length cy] 24)) from (HB2.out.trans (hb3.mono HB2.out.size)).alloc (by have := HB2.out.size; have := hb3.size; omega) _)
        have HP3 := Lib.hid ((HP2.out.below hb3 HP2.out.lt).alloc (.cells #[.slice Y fs.length cy] 24))
        have HFN3 := Lib.hid (hnew.ok.alloc (.cells #[.slice Y fs.length cy] 24))
        clear kp hb3 hnew
        have kp := HP3.out.cell 0
        simp only [List.getElem?_toArray, List.getElem?_cons_zero] at kp
        go_wp2_with fail
        refine (codeSame_any Y A cy c fs fs _ HM0.out HM0.out HFN3.out (HF.out.step HB3.out)).mono ?_
        rintro e w4 ⟨⟨qq, rfl, hqq⟩, hb4⟩
        have hqt : qq = true := hqq.2 rfl
        subst hqt
        have HB4 := Lib.hid (HB3.out.trans (hb4.mono HB3.out.size))
        clear kp hb4 hqq
        go_wp2_with fail
        refine (codeParse_any A' n c' l w4 (HT.out.step HB4.out) HL.out HC.out.1 HC.out.2 HX.out (by omega) ((HR.out.below HB4.out).more HB4.out.size)).mono ?_
        intro e wp hpar
        obtain ⟨hpar, hbp⟩ := hpar
        have HBP := Lib.hid (HB4.out.trans (hbp.mono HB4.out.size))
        clear hbp
        have hrz : ∃ r, Hid (rdP l = r) := ⟨_, rfl⟩
        obtain ⟨rz, HRZ⟩ := hrz
        rw [HRZ.out] at hpar
        cases rz with
        | bad q =>
          subst hpar
          have hq := rdP_bad HRZ.out
          rw [HL.out] at hq
          have a1 : decide ((0 : Int) ≤ (q : Int)) = true := by simp
          have a2 : decide ((q : Int) ≤ (n : Int)) = true := by simp; omega
          have a3 : decide (q ≤ n) = true := by simp; omega
          go_wp2_with fail
          refine (alive07 _ ((HT.out.step HBP.out).alloc _)).mono ?_
          rintro e w9 ⟨rfl, hb⟩
          have HB9 := Lib.hid (show Below w.heap.size w w9 from (HBP.out.alloc HBP.out.size _).trans (hb.mono (by rw [World.size_alloc]; have := HBP.out.size; omega)))
          clear hb
          go_wp2_with fail
          go_ret
          exact ⟨rfl, HB9.out⟩
        | ok gs q =>
          obtain ⟨X, cx, rfl, hnew⟩ := hpar
          obtain ⟨_, hok, hpr⟩ := rdP_back HX.out HRZ.out
          have HOK := Lib.hid hok
          have HPR := Lib.hid hpr
          have HGS := Lib.hid (show gs.length ≤ maxLen by have := (printOk_of hok).1; unfold maxLen; omega)
          have HFN := Lib.hid (hnew.ok.alloc (.cells #[.slice X gs.length cx] 24))
          have HBQ := Lib.hid (show Below w.heap.size w (wp.alloc (.cells #[.slice X gs.length cx] 24)) from HBP.out.alloc HBP.out.size _)
          clear hok hpr hnew
          have hml : ∃ m : Nat, Hid (m = gs.length) := ⟨_, rfl⟩
          obtain ⟨m, HM⟩ := hml
          rw [← HM.out] at HFN HBQ ⊢
          go_wp2_with fail
          have hwz : ∃ wz : World, Hid (wz = wp.alloc (.cells #[.slice X m cx] 24)) := ⟨_, rfl⟩
          obtain ⟨wz, HWZ⟩ := hwz
          rw [← HWZ.out] at HFN HBQ ⊢
          rw [HM.out]
          refine (print_any X cx gs wz (HT.out.step HBQ.out) HGS.out HFN.out).mono ?_
          rintro e ws ⟨hp, hbs⟩
          unfold PrintOut at hp
          rw [if_pos HOK.out, HPR.out, HL.out] at hp
          obtain ⟨Y, cy, rfl, hown⟩ := hp
          have HBS := Lib.hid (HBQ.out.trans (hbs.mono HBQ.out.size))
          have HYR := Lib.hid hown.row
          clear hbs hown
          have hsx : ∃ sx : ByteArray, Hid (sx = str l) := ⟨_, rfl⟩
          obtain ⟨sx, HSX⟩ := hsx
          have hv1 : (convert 35 9 (.slice Y n cy)).run Tryd.prog ws = .ok (.string sx) ws := by
            rw [HSX.out]
            exact conv_row _ _ 5 Tryd.underlying35 Tryd.underlying5 Tryd.underlying9 HL.out HYR.out
          have hv2 : (convert 35 9 (.slice A' n c')).run Tryd.prog ws = .ok (.string sx) ws := by
            rw [HSX.out]
            exact conv_row _ _ 5 Tryd.underlying35 Tryd.underlying5 Tryd.underlying9 HL.out (HR.out.below HBS.out)
          go_wp2_with fail
          refine (alive07 ws (HT.out.step HBS.out)).mono ?_
          rintro e w9 ⟨rfl, hb⟩
          have HB9 := Lib.hid (HBS.out.trans (hb.mono HBS.out.size))
          clear hb
          go_wp2_with fail
          go_ret
          exact ⟨rfl, HB9.out⟩
      · rw [if_neg hpo] at hp
        subst hp
        clear hpo kp
        go_wp2_with fail
        refine (codeParse_any A' n c' l w2 (HT.out.step HB2.out) HL.out HC.out.1 HC.out.2 HX.out (by omega) ((HR.out.below HB2.out).more HB2.out.size)).mono ?_
        intro e wp hpar
        obtain ⟨hpar, hbp⟩ := hpar
        have HBP := Lib.hid (HB2.out.trans (hbp.mono HB2.out.size))
        clear hbp
        have hrz : ∃ r, Hid (rdP l = r) := ⟨_, rfl⟩
        obtain ⟨rz, HRZ⟩ := hrz
        rw [HRZ.out] at hpar
        cases rz with
        | bad q =>
          subst hpar
          have hq := rdP_bad HRZ.out
          rw [HL.out] at hq
          have a1 : decide ((0 : Int) ≤ (q : Int)) = true := by simp
          have a2 : decide ((q : Int) ≤ (n : Int)) = true := by simp; omega
          have a3 : decide (q ≤ n) = true := by simp; omega
          go_wp2_with fail
          refine (alive07 _ ((HT.out.step HBP.out).alloc _)).mono ?_
          rintro e w9 ⟨rfl, hb⟩
          have HB9 := Lib.hid (show Below w.heap.size w w9 from (HBP.out.alloc HBP.out.size _).trans (hb.mono (by rw [World.size_alloc]; have := HBP.out.size; omega)))
          clear hb
          go_wp2_with fail
          go_ret
          exact ⟨rfl, HB9.out⟩
        | ok gs q =>
          obtain ⟨X, cx, rfl, hnew⟩ := hpar
          obtain ⟨_, hok, hpr⟩ := rdP_back HX.out HRZ.out
          have HOK := Lib.hid hok
          have HPR := Lib.hid hpr
          have HGS := Lib.hid (show gs.length ≤ maxLen by have := (printOk_of hok).1; unfold maxLen; omega)
          have HFN := Lib.hid (hnew.ok.alloc (.cells #[.slice X gs.length cx] 24))
          have HBQ := Lib.hid (show Below w.heap.size w (wp.alloc (.cells #[.slice X gs.length cx] 24)) from HBP.out.alloc HBP.out.size _)
          clear hok hpr hnew
          have hml : ∃ m : Nat, Hid (m = gs.length) := ⟨_, rfl⟩
          obtain ⟨m, HM⟩ := hml
          rw [← HM.out] at HFN HBQ ⊢
          go_wp2_with fail
          have hwz : ∃ wz : World, Hid (wz = wp.alloc (.cells #[.slice X m cx] 24)) := ⟨_, rfl⟩
          obtain ⟨wz, HWZ⟩ := hwz
          rw [← HWZ.out] at HFN HBQ ⊢
          rw [HM.out]
          refine (print_any X cx gs wz (HT.out.step HBQ.out) HGS.out HFN.out).mono ?_
          rintro e ws ⟨hp, hbs⟩
          unfold PrintOut at hp
          rw [if_pos HOK.out, HPR.out, HL.out] at hp
          obtain ⟨Y, cy, rfl, hown⟩ := hp
          have HBS := Lib.hid (HBQ.out.trans (hbs.mono HBQ.out.size))
          have HYR := Lib.hid hown.row
          clear hbs hown
          have hsx : ∃ sx : ByteArray, Hid (sx = str l) := ⟨_, rfl⟩
          obtain ⟨sx, HSX⟩ := hsx
          have hv1 : (convert 35 9 (.slice Y n cy)).run Tryd.prog ws = .ok (.string sx) ws := by
            rw [HSX.out]
            exact conv_row _ _ 5 Tryd.underlying35 Tryd.underlying5 Tryd.underlying9 HL.out HYR.out
          have hv2 : (convert 35 9 (.slice A' n c')).run Tryd.prog ws = .ok (.string sx) ws := by
            rw [HSX.out]
            exact conv_row _ _ 5 Tryd.underlying35 Tryd.underlying5 Tryd.underlying9 HL.out (HR.out.below HBS.out)
          go_wp2_with fail
          refine (alive07 ws (HT.out.step HBS.out)).mono ?_
          rintro e w9 ⟨rfl, hb⟩
          have HB9 := Lib.hid (HBS.out.trans (hb.mono HBS.out.size))
          clear hb
          go_wp2_with fail
          go_ret
          exact ⟨rfl, HB9.out⟩
end Go.Proofs.YthcbceaeobnmgaaDoor

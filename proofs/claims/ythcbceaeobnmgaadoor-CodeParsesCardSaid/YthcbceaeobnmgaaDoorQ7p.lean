/-
  The law CodeParses as a contract: it returns true, whatever bytes are handed in. Condition: the table isa.rows is laid.
-/
import Derived.Test.YthcbceaeobnmgaaDoorSchE
import Derived.Defers
import Derived.Test.YthcbceaeobnmgaaDoorRfn7
import Derived.Recover
import Derived.Tactics
import Derived.Tactics2
import Derived.Test.YthcbceaeobnmgaaDoorRFit7
import Derived.Test.YthcbceaeobnmgaaDoorBm11
import Derived.Deep.DeepCutAuto
import Derived.Test.YthcbceaeobnmgaaDoorAly7
import Derived.Test.YthcbceaeobnmgaaDoorSame7
namespace Go.Proofs.YthcbceaeobnmgaaDoor
open Go.RowKit
section
variable {P : Program} {ops : Array Oper} {Q : Exit → Act → World → Prop} {md : Region.Mode}
theorem plainsL_takeD {S : World → Prop} {m fuel : Nat} {w : World} {K : Act → Prop} {listed' : Array Bool} (hs : Region.noSelect ops = true) (hlast : lastB md ops m = true) (hQ : ∀ (k : Nat) (o : Oper), ops[k]? = some o → ∀ (c : List PanicEntry) (a : Act) (v : Value) (w : World), Q (.panic c) (a.put o.dst v) w → Q (.panic c) a w) (hS : S w)
    (hK : ∀ a', ClosedL md ops listed' → K a' → wpAnyE P md ops Q S m fuel listed' a' w) : ∀ (ks : List Nat) (listed : Array Bool) (a : Act), ClosedL md ops listed →
    plainsL md ops ks listed = some listed' → wpQuiet P ops S K (pickOps ops ks) a → wpAnyE P md ops Q S m (ks.length + fuel) listed a w
  | [], listed, a, hcl, hp, h => by
    simp only [plainsL, Option.some.injEq] at hp
    subst hp
    rw [List.length_nil, Nat.zero_add]
    exact hK a hcl h
  | k :: ks, listed, a, hcl, hp, h => by
    simp only [plainsL] at hp
    split at hp
    · rename_i hb
      simp only [Bool.and_eq_true] at hb
      cases h0 : ops[k]? with
      | none => rw [h0] at hb; exact absurd hb.2 (by simp)
      | some o =>
        rw [h0] at hb
        simp only [Option.map_some, Option.getD_some] at hb
        simp only [pickOps, h0] at h
        have hst : qOp P ops S k (wpQuiet P ops S K (pickOps ops ks)) a := by unfold qOp; simp only [h0]; exact h
        obtain ⟨v, hy, hK'⟩ := yieldsIf_of_quiet h0 hb.2 hst
        rw [List.length_cons, show ks.length + 1 + fuel = (ks.length + fuel) + 1 by omega]
        refine wpAnyE_first h0 (Region.noSelect_spec hs) (fun c a w h => hQ k o h0 c a _ w h) hlast _ _ _ _ hcl (Region.free_spec h0 hb.1.2) (by simpa using hb.1.1) hy hS ?_
        exact plainsL_takeD hs hlast hQ hS hK ks _ _ (hcl.set (by simpa using hb.1.1)) hp hK'
    · cases hp
theorem schE_anyD {lp : List Nat} {li : Nat} (hs : Region.noSelect ops = true) (hlast : lastB md ops li = true) (hQ : ∀ (k : Nat) (o : Oper), ops[k]? = some o → ∀ (c : List PanicEntry) (a : Act) (v : Value) (w : World), Q (.panic c) (a.put o.dst v) w → Q (.panic c) a w) :
    ∀ (segs : List (List Nat × Nat)) (S : World → Prop) (listed : Array Bool) (a : Act) (w : World), ClosedL md ops listed → schEB md ops lp li segs listed = true → S w → wpSchE P ops Q lp li segs S a w → wpAnyE P md ops Q S li (schLen segs lp + 1) listed a w
  | [], S, listed, a, w, hcl, hB, hS, h => by
    unfold schEB at hB
    split at hB
    · rename_i l' hp
      rw [Bool.and_eq_true, decide_eq_true_eq] at hB
      obtain ⟨hr, hB⟩ := hB
      have hi : li ∈ Region.ready md ops l' := by rw [hr]; simp
      obtain ⟨_, o, ho, _⟩ := mem_ready.1 hi
      have hpk : pickOps ops [li] = [o] := by simp [pickOps, ho]
      have := plainsL_takeD (fuel := 1) (P := P) (md := md) (S := S) (w := w) (m := li) (listed' := l') hs hlast hQ hS (K := fun a' => wpList P ops Q (pickOps ops [li]) a' w) (fun a' _ hq => by
        rw [hpk] at hq
        exact step_of_list ho hr (wpList_then_self hq) fun a'' w'' h3 => ⟨fun hne => absurd rfl hne, by simpa using hB, h3⟩) lp listed a hcl hp h
      exact this
    · cases hB
  | (pl, i) :: rest, S, listed, a, w, hcl, hB, hS, h => by
    unfold schEB at hB
    split at hB
    · rename_i l' hp
      rw [Bool.and_eq_true, decide_eq_true_eq, Bool.and_eq_true, decide_eq_true_eq] at hB
      obtain ⟨hr, _, hB⟩ := hB
      have hi : i ∈ Region.ready md ops l' := by rw [hr]; simp
      obtain ⟨_, o, ho, _⟩ := mem_ready.1 hi
      have hpk : pickOps ops [i] = [o] := by simp [pickOps, ho]
      have := plainsL_takeD (fuel := 1 + (schLen rest lp + 1)) (P := P) (md := md) (S := S) (w := w) (m := li) (listed' := l') hs hlast hQ hS (K := fun a' => wpList P ops (Exit.then (fun a'' w'' => ∃ S' : World → Prop, S' w'' ∧ (∀ w, S' w → S w) ∧ wpSchE P ops Q lp li rest S' a'' w'') Q) (pickOps ops [i]) a' w) (fun a' hcl' hq => by
        rw [Nat.add_comm 1]
        rw [hpk] at hq
        refine step_of_list ho hr hq fun a'' w'' h3 => ?_
        obtain ⟨S', hS', hSS, h4⟩ := h3
        exact ⟨fun _ => hSS _ hS', wpAnyE_mono hSS _ _ _ _ (schE_anyD hs hlast hQ rest S' (l'.setIfInBounds i true) a'' w'' (hcl'.set hi) hB hS' h4)⟩) pl listed a hcl hp h
      have e : pl.length + (1 + (schLen rest lp + 1)) = schLen ((pl, i) :: rest) lp + 1 := by simp only [schLen]; omega
      rw [e] at this
      exact this
    · cases hB
/-- THE REGION, its last step free. -/
theorem region_schED {id : Nat} {a : Act} {w : World} {l : List Oper} (S : World → Prop) (segs : List (List Nat × Nat)) (lp : List Nat) (li : Nat) (hm : P.follows .mixedOrders = true) (hs : Region.noSelect l.toArray = true) (hB : (schEB .any l.toArray lp li segs (Array.replicate l.toArray.size false) && (decide (schLen segs lp + 1 = l.length) && lastB .any l.toArray li)) = true)
    (hQ : ∀ (k : Nat) (o : Oper), l.toArray[k]? = some o → ∀ (c : List PanicEntry) (a : Act) (v : Value) (w : World), Q (.panic c) (a.put o.dst v) w → Q (.panic c) a w) (hS : S w.drew) (h : wpSchE P l.toArray Q lp li segs S a w.drew) : (Code.region id l.toArray true).wp P Q a w := by
  rw [Bool.and_eq_true, Bool.and_eq_true, decide_eq_true_eq] at hB
  refine wp_region_any hm (wpAny_of_E (S := S) (m := li) _ _ _ _ ?_)
  have := schE_anyD (P := P) (ops := l.toArray) (md := .any) hs hB.2.2 hQ segs S (Array.replicate l.toArray.size false) a w.drew (ClosedL.start _) hB.1 hS h
  rw [hB.2.1] at this
  simpa using this
end
theorem leaves_tmps {P : Program} {fn : Func} {t1 t2 : Array Value} {R : Ending → World → Prop} (hr : ∀ w, (results fn t1).run P w = (results fn t2).run P w) : ∀ (ds : List Deferred) (u : FrameMode) (w : World), Leaves P fn t1 R ds u w → Leaves P fn t2 R ds u w
  | [], .returning, w, h => by
    obtain ⟨v, h1, h2⟩ := h
    exact ⟨v, by rw [← hr]; exact h1, h2⟩
  | [], .panicking c, w, h => h
  | [], .run, w, h => h.elim
  | d :: ds, u, w, h => by
    obtain ⟨hu, fv, cap, f, args, h1, h2, h3⟩ := h
    refine ⟨hu, fv, cap, f, args, h1, h2, h3.mono ?_⟩
    intro e u' w' h4
    cases e with
    | returned v => exact leaves_tmps hr ds _ _ h4
    | panicked c => exact leaves_tmps hr ds _ _ h4
    | outgrown => exact h4
theorem leaves_put {P : Program} {fn : Func} {R : Ending → World → Prop} {a : Act} {o : Option Tmp} {v : Value} {w : World} {c : List PanicEntry} (hr : ∀ w, (results fn (a.put o v).tmps).run P w = (results fn a.tmps).run P w) (h : bodyPostD P fn R (.panic c) (a.put o v) w) : bodyPostD P fn R (.panic c) a w := by
  have h' : Leaves P fn (a.put o v).tmps R (a.put o v).defers (.panicking c) w := h
  have e : (a.put o v).defers = a.defers := by cases o <;> rfl
  rw [e] at h'
  exact leaves_tmps hr _ _ _ h'
end Go.Proofs.YthcbceaeobnmgaaDoor
namespace Go.Proofs.YthcbceaeobnmgaaDoor
open Go.RowKit
set_option maxHeartbeats 2000000 in
theorem catch_idle (gp ga gf : Nat) (w : World) :
    CallsD Tryd.prog 36 #[.pointer (some ⟨gp, 0, none⟩), .pointer (some ⟨ga, 0, none⟩), .pointer (some ⟨gf, 0, none⟩)] .returning w fun e u' w' => e = .returned (.tuple #[]) ∧ u' = .returning ∧ w' = w := by
  refine callsD_of_wpS Tryd.func36 rfl fun c₀ cs hu => ?_
  apply wpS_seq
  apply wpS_region
  simp [wpOpsS, go_sem, recoverD, hu, Tryd.ntmps36, Exit.thenS]
  simp only [Array.replicate_succ, Array.replicate_zero, List.push_toArray, List.append_toArray, List.nil_append, List.cons_append, List.setIfInBounds_toArray, List.set_cons_zero, List.set_cons_succ]
  refine wpS_of_wp ?_
  go_wp2_with fail
  refine ⟨rfl, .returning, ?_, .tuple #[], results_none rfl _ _ _, rfl, rfl, rfl⟩
  rw [← hu]
set_option maxHeartbeats 2000000 in
theorem catch_wrong (gp ga gf q : Nat) (x : Value) (y z : Value) (older : List PanicEntry) (w : World) (h0 : Blk w gp 24 #[x]) (h1 : Blk w ga 3 #[y]) (h2 : Blk w gf 36 #[z]) (hd : gp ≠ ga ∧ gp ≠ gf ∧ ga ≠ gf) (m : Nat) (hm : m ≤ gp ∧ m ≤ ga ∧ m ≤ gf ∧ m ≤ w.heap.size) :
    CallsD Tryd.prog 36 #[.pointer (some ⟨gp, 0, none⟩), .pointer (some ⟨ga, 0, none⟩), .pointer (some ⟨gf, 0, none⟩)] (.panicking ({ v := .iface 61 (.agg #[.int .i64 q]), recovered := false } :: older)) w fun e u' w' =>
      e = .returned (.tuple #[]) ∧ u' = .panicking ({ v := .iface 61 (.agg #[.int .i64 q]), recovered := true } :: older) ∧ Blk w' gp 24 #[.slice none 0 0] ∧ Blk w' ga 3 #[.int .i64 q] ∧ Blk w' gf 36 #[.int .i64 4] ∧ Below m w w' := by
  have hta : ∀ (v : Value) (w : World), (Instr.typeAssert (.iface 61 v) 20 61 true).run Tryd.prog w = .ok (.tuple #[v, .bool true]) w := fun _ _ => by kernel_rfl
  refine callsD_of_wpS Tryd.func36 rfl fun c₀ cs hu => ?_
  apply wpS_seq
  apply wpS_region
  simp [wpOpsS, go_sem, recoverD, hu, Tryd.ntmps36, Exit.thenS]
  simp only [Array.replicate_succ, Array.replicate_zero, List.push_toArray, List.append_toArray, List.nil_append, List.cons_append, List.setIfInBounds_toArray, List.set_cons_zero, List.set_cons_succ]
  refine wpS_of_wp ?_
  have a0 := h0.cell 0
  have a1 := h1.cell 0
  have a2 := h2.cell 0
  simp only [List.getElem?_toArray, List.getElem?_cons_zero] at a0 a1 a2
  have b0 := h0.frozen 0
  have b1 := h1.frozen 0
  have b2 := h2.frozen 0
  clear hu
  go_wp2_with fail
  have hw1 : ∃ w1 : World, Hid (w1 = w.alloc (.cells #[.int .i64 q] 61)) := ⟨_, rfl⟩
  obtain ⟨w1, HW1⟩ := hw1
  have hgw : ∃ gw : Nat, Hid (gw = w.heap.size) := ⟨_, rfl⟩
  obtain ⟨gw, HGW⟩ := hgw
  rw [← HW1.out, ← HGW.out]
  have HC := Lib.hid (show S1c gw (.int .i64 q) w1 by
    have h := (Blk.new w 61 #[.int .i64 q]).cell 0
    rw [← HW1.out, ← HGW.out] at h
    simp only [List.getElem?_toArray, List.getElem?_cons_zero] at h
    exact h)
  have k0 := Lib.hid (show Blk w1 gp 24 #[x] by rw [HW1.out]; exact h0.alloc _)
  have k1 := Lib.hid (show Blk w1 ga 3 #[y] by rw [HW1.out]; exact h1.alloc _)
  have k2 := Lib.hid (show Blk w1 gf 36 #[z] by rw [HW1.out]; exact h2.alloc _)
  have HNE := Lib.hid (show gw ≠ gp ∧ gw ≠ ga ∧ gw ≠ gf by rw [HGW.out]; have := h0.lt; have := h1.lt; have := h2.lt; omega)
  have HD := Lib.hid hd
  have HMM := Lib.hid hm
  have B1 := Lib.hid (show Below m w w1 by rw [HW1.out]; exact (Below.refl _ _).alloc hm.2.2.2 _)
  have F0 : ∀ w' : World, S1c gw (.int .i64 q) w' → w'.cell? ⟨gw, 0, none⟩ = some (.int .i64 q) := fun _ h => h
  clear a0 a1 a2 b0 b1 b2 h0 h1 h2 hd hm
  have a0 := k0.out.drew.cell 0
  have b0 := k0.out.drew.frozen 0
  simp only [List.getElem?_toArray, List.getElem?_cons_zero] at a0
  refine region_schE (S1c gw (.int .i64 q)) [([0, 1, 2], 3), ([], 4)] [] 5 (by kernel_rfl) (by kernel_rfl) (by kernel_rfl) (fun _ _ d _ _ h => by cases d <;> exact h) HC.out ?_
  (try simp only [Act.put, List.setIfInBounds_toArray, List.set_cons_zero, List.set_cons_succ]); refine schE_seg ?_; simp only [pickOps, List.getElem?_toArray, List.getElem?_cons_zero, List.getElem?_cons_succ]; (repeat (first | go_big_quiet_skip | (go_big_quiet_want; first | (go_big_quiet_op; first | go_big_quiet_on | ((first | with_reducible refine ⟨_, fun _ _ => rfl, ?_⟩); go_big_quiet_on)) | (simp (contextual := true) [go_sem, F0]; with_reducible refine ⟨_, fun _ _ => rfl, ?_⟩; go_big_quiet_on)))); refine wpQuiet_nil ?_
  go_wp2_with fail
  have hwa : ∃ wa : World, Hid (wa = (w1.setCell ⟨gp, 0, none⟩ (.slice none 0 0)).drew) := ⟨_, rfl⟩
  obtain ⟨wa, HWA⟩ := hwa
  rw [← HWA.out]
  have CA := Lib.hid (show S1c gw (.int .i64 q) wa by
    rw [HWA.out]
    exact (World.cell?_of_block (w := w1) (w' := (w1.setCell ⟨gp, 0, none⟩ (.slice none 0 0)).drew) (a := ⟨gw, 0, none⟩) (Below.heap_setCell w1 ⟨gp, 0, none⟩ (.slice none 0 0) gw HNE.out.1)).trans HC.out)
  have ka0 := Lib.hid (show Blk wa gp 24 #[.slice none 0 0] by rw [HWA.out]; simpa using (k0.out.set_ 0 (.slice none 0 0)).drew)
  have ka1 := Lib.hid (show Blk wa ga 3 #[y] by rw [HWA.out]; exact (k1.out.far (p := ⟨gp, 0, none⟩) (fun e => HD.out.1 e.symm) _).drew)
  have ka2 := Lib.hid (show Blk wa gf 36 #[z] by rw [HWA.out]; exact (k2.out.far (p := ⟨gp, 0, none⟩) (fun e => HD.out.2.1 e.symm) _).drew)
  refine ⟨S1c gw (.int .i64 q), CA.out, fun _ h => h, ?_⟩
  clear a0 b0
  have a1 := ka1.out.cell 0
  have b1 := ka1.out.frozen 0
  simp only [List.getElem?_toArray, List.getElem?_cons_zero] at a1
  (try simp only [Act.put, List.setIfInBounds_toArray, List.set_cons_zero, List.set_cons_succ]); refine schE_seg ?_; simp only [pickOps, List.getElem?_toArray, List.getElem?_cons_zero, List.getElem?_cons_succ]; (repeat (first | go_big_quiet_skip | (go_big_quiet_want; first | (go_big_quiet_op; first | go_big_quiet_on | ((first | with_reducible refine ⟨_, fun _ _ => rfl, ?_⟩); go_big_quiet_on)) | (simp (contextual := true) [go_sem, F0]; with_reducible refine ⟨_, fun _ _ => rfl, ?_⟩; go_big_quiet_on)))); refine wpQuiet_nil ?_
  go_wp2_with fail
  have hwb : ∃ wb : World, Hid (wb = wa.setCell ⟨ga, 0, none⟩ (.int .i64 q)) := ⟨_, rfl⟩
  obtain ⟨wb, HWB⟩ := hwb
  rw [← HWB.out]
  have CB := Lib.hid (show S1c gw (.int .i64 q) wb by
    rw [HWB.out]
    exact (World.cell?_of_block (w := wa) (w' := wa.setCell ⟨ga, 0, none⟩ (.int .i64 q)) (a := ⟨gw, 0, none⟩) (Below.heap_setCell wa ⟨ga, 0, none⟩ (.int .i64 q) gw HNE.out.2.1)).trans CA.out)
  have kb0 := Lib.hid (show Blk wb gp 24 #[.slice none 0 0] by rw [HWB.out]; exact ka0.out.far (p := ⟨ga, 0, none⟩) HD.out.1 _)
  have kb1 := Lib.hid (show Blk wb ga 3 #[.int .i64 q] by rw [HWB.out]; simpa using ka1.out.set_ 0 (.int .i64 q))
  have kb2 := Lib.hid (show Blk wb gf 36 #[z] by rw [HWB.out]; exact ka2.out.far (p := ⟨ga, 0, none⟩) (fun e => HD.out.2.2 e.symm) _)
  refine ⟨S1c gw (.int .i64 q), CB.out, fun _ h => h, ?_⟩
  clear a1 b1
  have a2 := kb2.out.cell 0
  have b2 := kb2.out.frozen 0
  simp only [List.getElem?_toArray, List.getElem?_cons_zero] at a2
  (try simp only [Act.put, List.setIfInBounds_toArray, List.set_cons_zero, List.set_cons_succ]); refine schE_last ?_; simp only [pickOps, List.getElem?_toArray, List.getElem?_cons_zero, List.getElem?_cons_succ]; (repeat (first | go_big_quiet_skip | (go_big_quiet_want; first | (go_big_quiet_op; first | go_big_quiet_on | ((first | with_reducible refine ⟨_, fun _ _ => rfl, ?_⟩); go_big_quiet_on)) | (simp (contextual := true) [go_sem, F0]; with_reducible refine ⟨_, fun _ _ => rfl, ?_⟩; go_big_quiet_on)))); refine wpQuiet_nil ?_
  go_wp2_with fail
  refine ⟨rfl, _, rfl, .tuple #[], results_none rfl _ _ _, rfl, rfl, ?_, ?_, ?_, ?_⟩
  · exact kb0.out.far (p := ⟨gf, 0, none⟩) HD.out.2.1 _
  · exact kb1.out.far (p := ⟨gf, 0, none⟩) HD.out.2.2 _
  · simpa using kb2.out.set_ 0 (.int .i64 4)
  · have h1 : Below m w wb := by
      rw [HWB.out, HWA.out]
      exact ((B1.out.setCell (p := ⟨gp, 0, none⟩) HMM.out.1 _).drew).setCell (p := ⟨ga, 0, none⟩) HMM.out.2.1 _
    exact h1.setCell (p := ⟨gf, 0, none⟩) HMM.out.2.2.1 _
end Go.Proofs.YthcbceaeobnmgaaDoor
namespace Go.Proofs.YthcbceaeobnmgaaDoor
open Go.RowKit
/-- What Parse hands back. -/
def ParseIs (w : World) (l : List Nat) (e : Ending) (w' : World) : Prop :=
  (match rdP l with
    | .ok fs _ => ∃ X c', e = .returned (.tuple #[.agg #[.slice X fs.length c'], .int .i64 0, .int .i64 0]) ∧ FnsNew w' w.heap.size X fs
    | .bad q => e = .returned (.tuple #[.agg #[.slice none 0 0], .int .i64 q, .int .i64 4])) ∧ Below w.heap.size w w'
/-- What holds in Parse's loop. -/
structure ParInv (w wr : World) (m g : Nat) (A : Option Addr) (n c : Nat) (l : List Nat) (q k : Nat) (fs : List Fn) (al : List FnA) (X : Option Addr) (cx : Nat) : Prop where
  rdr : Rdr wr m g A n c l q
  prog : Blk wr m 24 #[.slice X k cx]
  place : Blk wr (m + 1) 3 #[.int .i64 0]
  fault : Blk wr (m + 2) 36 #[.int .i64 0]
  own : Own wr (g + 1) 31 2 X k cx (al.flatMap fnaVals)
  fns : FnsAt wr (Off wr g X) al fs
  below : Below m w wr
  tab : Tab wr
set_option maxHeartbeats 4000000 in
theorem codeParse_any (A : Option Addr) (n c : Nat) (l : List Nat) (w : World) (hT : Tab w) (hl : l.length = n) (hcap : n ≤ c) (hm : c ≤ maxLen) (hx : ∀ x ∈ l, x < 256) (h3 : n ≤ 3000) (hr : Row w w.heap.size A (byteVals l)) :
    Calls Tryd.prog 16 #[.slice A n c] w fun e w' => ParseIs w l e w' := by
  have hmf : ∀ (fn : Go.Fn) (first cap : Array Value) (w : World), (Instr.makeFunc fn first cap).run Tryd.prog w = .ok (.func fn first cap) w := fun _ _ _ _ => rfl
  have hmz : ∃ m : Nat, Hid (m = w.heap.size) := ⟨_, rfl⟩
  obtain ⟨m, HM⟩ := hmz
  have hgz : ∃ g : Nat, Hid (g = w.heap.size + 3) := ⟨_, rfl⟩
  obtain ⟨g, HG⟩ := hgz
  have hWz : ∃ W : World, Hid (W = (((w.alloc (.cells #[.slice none 0 0] 24)).alloc (.cells #[.int .i64 0] 3)).alloc (.cells #[.int .i64 0] 36)).alloc (.cells #[.slice A n c, .int .i64 0] 65)) := ⟨_, rfl⟩
  obtain ⟨W, HW⟩ := hWz
  have B1 : Below w.heap.size w (w.alloc (.cells #[.slice none 0 0] 24)) := (Below.refl _ _).alloc (Nat.le_refl _) _
  have B2 := B1.alloc (by simp) (.cells #[.int .i64 0] 3)
  have B3 := B2.alloc (by simp; omega) (.cells #[.int .i64 0] 36)
  have B4 := B3.alloc (by simp; omega) (.cells #[.slice A n c, .int .i64 0] 65)
  have HI0 := Lib.hid (show ParInv w W m g A n c l 0 0 [] [] none 0 by
    rw [HM.out, HG.out, HW.out]
    refine ⟨⟨?_, hr.below B4, by omega, hl, hcap, hm, hx, by omega, h3⟩, ?_, ?_, ?_, Own.nil _ _ _ _, FnsAt.nil _ _, B4, hT.step B4⟩
    · have h := Blk.new (((w.alloc (.cells #[.slice none 0 0] 24)).alloc (.cells #[.int .i64 0] 3)).alloc (.cells #[.int .i64 0] 36)) 65 #[.slice A n c, .int .i64 0]
      simpa using h
    · exact (((Blk.new w _ _).alloc _).alloc _).alloc _
    · have h := Blk.new (w.alloc (.cells #[.slice none 0 0] 24)) 3 #[.int .i64 0]
      rw [World.size_alloc] at h
      exact (h.alloc _).alloc _
    · have h := Blk.new ((w.alloc (.cells #[.slice none 0 0] 24)).alloc (.cells #[.int .i64 0] 3)) 36 #[.int .i64 0]
      simp only [World.size_alloc] at h
      exact h.alloc _)
  have h0m : 0 < m := by rw [HM.out]; exact hT.pos
  clear B1 B2 B3 B4 hr hl hx hT hcap hm
  go_enter_defers Tryd.func16, Tryd.ntmps16
  go_wp2_with fail
  rw [← HW.out, ← HM.out, show m + 1 + 1 + 1 = g by rw [HG.out, HM.out], show m + 1 + 1 = m + 2 from rfl]
  have HGM := Lib.hid (show g = m + 3 by rw [HG.out, HM.out])
  have HU := Lib.hid (upto_any HI0.out.rdr 16)
  by_cases h1 : n = 0
  · have HE := Lib.hid (show rdP l = .bad n by unfold rdP; rw [if_pos (by rw [HI0.out.rdr.len]; exact h1), h1])
    simp only [if_pos (show l.length ≤ 0 by rw [HI0.out.rdr.len]; omega)] at HU
    clear h1
    refine HU.out.mono ?_
    rintro e w1 ⟨rfl, hg⟩
    have HK0 := Lib.hid (HI0.out.prog.grown hg (by intro e; injection e with e; have := HGM.out; omega))
    have HK1 := Lib.hid (HI0.out.place.grown hg (by intro e; injection e with e; have := HGM.out; omega))
    have HK2 := Lib.hid (HI0.out.fault.grown hg (by intro e; injection e with e; have := HGM.out; omega))
    have HBM := Lib.hid (HI0.out.below.trans ((mv_low hg HI0.out.rdr.blk.lt).mono (by have := HGM.out; omega)))
    clear hg
    go_wp2_with fail
    refine leaves_cons (f := 36) (args := #[.pointer (some ⟨m, 0, none⟩), .pointer (some ⟨m + 1, 0, none⟩), .pointer (some ⟨m + 2, 0, none⟩)]) (by simp) (by simp [go_sem]) ?_
    refine (catch_wrong m (m + 1) (m + 2) n _ _ _ [] w1 HK0.out HK1.out HK2.out (by omega) m (by have := HK0.out.lt; omega)).mono ?_
    rintro e u' wz ⟨rfl, rfl, p0, p1, p2, hbz⟩
    have d0 := p0.cell 0
    have d1 := p1.cell 0
    have d2 := p2.cell 0
    simp only [List.getElem?_toArray, List.getElem?_cons_zero] at d0 d1 d2
    have hpi : ParseIs w l (.returned (.tuple #[.agg #[.slice none 0 0], .int .i64 n, .int .i64 4])) wz := by
      unfold ParseIs
      rw [HE.out, ← HM.out]
      exact ⟨rfl, HBM.out.trans hbz⟩
    clear p0 p1 p2 hbz
    simp [Leaves, settle, results, Tryd.results16, go_sem, d0, d1, d2]
    exact hpi
  · have hn0 : ¬ l.length = 0 := by rw [HI0.out.rdr.len]; exact h1
    simp only [if_neg (show ¬ l.length ≤ 0 by omega)] at HU
    have hx : ∃ x : Nat, Hid (x = l.getD 0 0) := ⟨_, rfl⟩
    obtain ⟨x, HX⟩ := hx
    rw [← HX.out] at HU
    by_cases h16 : 16 < x
    · have HE := Lib.hid (show rdP l = .bad 0 by unfold rdP; rw [if_neg hn0, ← HX.out, if_pos h16])
      simp only [if_pos h16] at HU
      clear h1 hn0
      refine HU.out.mono ?_
      rintro e w1 ⟨rfl, hg⟩
      have HK0 := Lib.hid (HI0.out.prog.grown hg (by intro e; injection e with e; have := HGM.out; omega))
      have HK1 := Lib.hid (HI0.out.place.grown hg (by intro e; injection e with e; have := HGM.out; omega))
      have HK2 := Lib.hid (HI0.out.fault.grown hg (by intro e; injection e with e; have := HGM.out; omega))
      have HBM := Lib.hid (HI0.out.below.trans ((mv_low hg HI0.out.rdr.blk.lt).mono (by have := HGM.out; omega)))
      clear hg
      go_wp2_with fail
      refine leaves_cons (f := 36) (args := #[.pointer (some ⟨m, 0, none⟩), .pointer (some ⟨m + 1, 0, none⟩), .pointer (some ⟨m + 2, 0, none⟩)]) (by simp) (by simp [go_sem]) ?_
      refine (catch_wrong m (m + 1) (m + 2) 0 _ _ _ [] w1 HK0.out HK1.out HK2.out (by omega) m (by have := HK0.out.lt; omega)).mono ?_
      rintro e u' wz ⟨rfl, rfl, p0, p1, p2, hbz⟩
      have d0 := p0.cell 0
      have d1 := p1.cell 0
      have d2 := p2.cell 0
      simp only [List.getElem?_toArray, List.getElem?_cons_zero] at d0 d1 d2
      have hpi : ParseIs w l (.returned (.tuple #[.agg #[.slice none 0 0], .int .i64 ((0 : Nat) : Int), .int .i64 4])) wz := by
        unfold ParseIs
        rw [HE.out, ← HM.out]
        exact ⟨rfl, HBM.out.trans hbz⟩
      clear p0 p1 p2 hbz
      simp [Leaves, settle, results, Tryd.results16, go_sem, d0, d1, d2]
      exact hpi
    · have HE0 := Lib.hid (show rdP l = match rdFs l 1 x with
        | .bad q => .bad q
        | .ok fs q => if q < l.length then .bad q else .ok fs 0 by unfold rdP; rw [if_neg hn0, ← HX.out, if_neg h16]; rfl)
      simp only [if_neg h16] at HU
      have hn1 : 0 + 1 ≤ n := by omega
      clear h1 hn0
      refine HU.out.mono ?_
      rintro e w1 ⟨rfl, hm1⟩
      have HI1 := Lib.hid (show ParInv w w1 m g A n c l 1 0 [] [] none 0 from
        ⟨HI0.out.rdr.moved hm1 hn1, HI0.out.prog.grown hm1.2 (by intro e; injection e with e; have := HGM.out; omega), HI0.out.place.grown hm1.2 (by intro e; injection e with e; have := HGM.out; omega), HI0.out.fault.grown hm1.2 (by intro e; injection e with e; have := HGM.out; omega), Own.nil _ _ _ _, FnsAt.nil _ _, HI0.out.below.trans ((mv_low hm1.2 HI0.out.rdr.blk.lt).mono (by have := HGM.out; omega)), HI0.out.tab.keep (mv_low hm1.2 HI0.out.rdr.blk.lt) (by have := HGM.out; omega)⟩)
      clear hm1
      go_wp2_with fail
      obtain ⟨i0, hi, hz0, hz1, hz2⟩ := info_parts Tryd.infoFn7
      have HI5 := Lib.hid hi
      have HZ0 := Lib.hid hz0
      have HZ1 := Lib.hid hz1
      have HZ2 := Lib.hid hz2
      clear hi hz0 hz1 hz2
      go_loopw [12] (fun vi wr => ∃ (k q : Nat) (fs : List Fn) (al : List FnA) (X : Option Addr) (cx : Nat), k ≤ x ∧ vi = .int .i64 k ∧ Hid (rdFs l 1 k = .ok fs q ∧ ParInv w wr m g A n c l q k fs al X cx)) (fun vi _ => x - (intOf vi).toNat)
      case atStart => exact ⟨0, 1, [], [], none, 0, by omega, rfl, Lib.hid ⟨rfl, HI1.out⟩⟩
      case round =>
        obtain ⟨k, q, fs, al, X, cx, hk, rfl, HI⟩ := hrel
        clear HI1 HU HI0
        have q0 := HI.out.2.prog.cell 0
        simp only [List.getElem?_toArray, List.getElem?_cons_zero] at q0
        have HZ := Lib.hid HI.out.2.prog.lt
        by_cases hlt : k < x
        · have F0 : ∀ w' : World, S1c m (.slice X k cx) w' → w'.cell? ⟨m, 0, none⟩ = some (.slice X k cx) := fun _ h => h
          have HS := Lib.hid (show ∀ w', Below wr.heap.size wr w' → S1c m (.slice X k cx) w' from fun w' h => (h.cell (p := ⟨m, 0, none⟩) HZ.out).trans q0)
          clear q0
          go_wp2_with fail
          refine region_schED (S1c m (.slice X k cx)) [([0, 1, 2], 3), ([], 4), ([], 5)] [6] 7 (by kernel_rfl) (by kernel_rfl) (by kernel_rfl) (fun k o ho c a v w' h => by have hm := Array.mem_of_getElem? ho; simp only [List.mem_toArray, List.mem_cons, List.not_mem_nil, or_false] at hm; rcases hm with rfl | rfl | rfl | rfl | rfl | rfl | rfl | rfl <;> exact leaves_put (P := Tryd.prog) (R := fun e w' => ParseIs w l e w') (fn := Tryd.f16) (fun w => by simp [results, Tryd.results16, Act.put]) h) (HS.out _ (Below.refl _ _).drew) ?_
          (try simp only [Act.put, List.setIfInBounds_toArray, List.set_cons_zero, List.set_cons_succ]); refine schE_seg ?_; simp only [pickOps, List.getElem?_toArray, List.getElem?_cons_zero, List.getElem?_cons_succ]; (repeat (first | go_big_quiet_skip | (go_big_quiet_want; first | (go_big_quiet_op; first | go_big_quiet_on | ((first | with_reducible refine ⟨_, fun _ _ => rfl, ?_⟩); go_big_quiet_on)) | (simp (contextual := true) [go_sem, F0]; with_reducible refine ⟨_, fun _ _ => rfl, ?_⟩; go_big_quiet_on)))); refine wpQuiet_nil ?_
          go_wp2_with fail
          have hbd : Below wr.heap.size wr wr.drew := (Below.refl _ _).drew
          have HID := Lib.hid (show ParInv w wr.drew m g A n c l q k fs al X cx from
            ⟨HI.out.2.rdr.below hbd, HI.out.2.prog.below hbd HI.out.2.prog.lt, HI.out.2.place.below hbd HI.out.2.place.lt, HI.out.2.fault.below hbd HI.out.2.fault.lt, HI.out.2.own, HI.out.2.fns.below hbd, HI.out.2.below.trans (hbd.mono (by have := HZ.out; omega)), HI.out.2.tab.step hbd⟩)
          clear hbd
          refine (fn_any HID.out.rdr HID.out.tab h0m).mono ?_
          intro e w2 hout
          have hr : ∃ r, Hid (rdF l q = r) := ⟨_, rfl⟩
          obtain ⟨r, HR⟩ := hr
          rw [HR.out] at hout
          cases r with
          | bad q2 =>
            obtain ⟨he, hg⟩ := hout
            unfold Bad at he
            subst he
            have HE := Lib.hid (show rdP l = .bad q2 by
              rw [HE0.out, rdFs_bad l 1 (k + 1) x q2 (by unfold rdFs; rw [HI.out.1]; simp only; rw [HR.out]) (by omega)])
            have HK0 := Lib.hid (HID.out.prog.grown hg (by intro e; injection e with e; have := HGM.out; omega))
            have HK1 := Lib.hid (HID.out.place.grown hg (by intro e; injection e with e; have := HGM.out; omega))
            have HK2 := Lib.hid (HID.out.fault.grown hg (by intro e; injection e with e; have := HGM.out; omega))
            have HBM := Lib.hid (HID.out.below.trans ((mv_low hg HID.out.rdr.blk.lt).mono (by have := HGM.out; omega)))
            clear hg
            go_wp2_with fail
            refine leaves_cons (f := 36) (args := #[.pointer (some ⟨m, 0, none⟩), .pointer (some ⟨m + 1, 0, none⟩), .pointer (some ⟨m + 2, 0, none⟩)]) (by simp) (by simp [go_sem]) ?_
            refine (catch_wrong m (m + 1) (m + 2) q2 _ _ _ [] w2 HK0.out HK1.out HK2.out (by omega) m (by have := HK0.out.lt; omega)).mono ?_
            rintro e u' wz ⟨rfl, rfl, p0, p1, p2, hbz⟩
            have d0 := p0.cell 0
            have d1 := p1.cell 0
            have d2 := p2.cell 0
            simp only [List.getElem?_toArray, List.getElem?_cons_zero] at d0 d1 d2
            have hpi : ParseIs w l (.returned (.tuple #[.agg #[.slice none 0 0], .int .i64 q2, .int .i64 4])) wz := by
              unfold ParseIs
              rw [HE.out, ← HM.out]
              exact ⟨rfl, HBM.out.trans hbz⟩
            clear p0 p1 p2 hbz
            simp [Leaves, settle, results, Tryd.results16, go_sem, d0, d1, d2]
            exact hpi
          | ok f q2 =>
            obtain ⟨⟨v, he, ⟨a, hv, hf⟩⟩, hm2⟩ := hout
            obtain ⟨C, fn, fc, S, fm, fd⟩ := a
            subst he hv
            have HRC := Lib.hid (show rdFs l 1 (k + 1) = .ok (fs ++ [f]) q2 by unfold rdFs; rw [HI.out.1]; simp only; rw [HR.out])
            have hq2 : q2 ≤ n := by
              have h1 := rdF_in l q (by have := HID.out.rdr.len; have := HID.out.rdr.pos; omega)
              rw [HR.out] at h1
              have h2 : q2 ≤ l.length := h1
              rw [HID.out.rdr.len] at h2
              exact h2
            have hgm := HGM.out
            have hlow2 : Below m wr.drew w2 := (mv_low hm2.2 HID.out.rdr.blk.lt).mono (by omega)
            have HI2 := Lib.hid (show ParInv w w2 m g A n c l q2 k fs al X cx from
              ⟨HID.out.rdr.moved hm2 hq2, HID.out.prog.grown hm2.2 (by intro e; injection e with e; omega), HID.out.place.grown hm2.2 (by intro e; injection e with e; omega), HID.out.fault.grown hm2.2 (by intro e; injection e with e; omega), HID.out.own.kept hm2.2 (HID.out.own.ne_lt (by omega)),
               (HID.out.fns.keep (fun b hb => hm2.2.block b hb.1 (by intro e; injection e with e; have := hb.2.1; omega))).mono (fun b hb => ⟨Nat.lt_of_lt_of_le hb.1 hm2.2.size, hb.2⟩), HID.out.below.trans hlow2, HID.out.tab.keep (mv_low hm2.2 HID.out.rdr.blk.lt) (by omega)⟩)
            have HF2 := Lib.hid (show FnS w2 (Off w2 g X) ⟨C, fn, fc, S, fm, fd⟩ f from hf.mono (fun b hb => ⟨hb.2, by have := HID.out.rdr.blk.lt; omega, fun e => by have := (HID.out.own.lt b e).2; omega⟩))
            have q0 := HI2.out.prog.cell 0
            simp only [List.getElem?_toArray, List.getElem?_cons_zero] at q0
            have C0 := Lib.hid (show S1c m (.slice X k cx) w2 from q0)
            clear hm2 q0 hf hgm hlow2
            have hgn : ∃ gn : Nat, Hid (gn = w2.heap.size) := ⟨_, rfl⟩
            obtain ⟨gn, HGN⟩ := hgn
            have hw3 : ∃ w3 : World, Hid (w3 = w2.alloc (.cells #[.slice C fn fc, .slice S fm fd] 31)) := ⟨_, rfl⟩
            obtain ⟨w3, HW3⟩ := hw3
            go_wp2_with fail
            refine ⟨S1c m (.slice X k cx), C0.out, fun _ h => h, ?_⟩
            (try simp only [Act.put, List.setIfInBounds_toArray, List.set_cons_zero, List.set_cons_succ]); refine schE_seg ?_; simp only [pickOps, List.getElem?_toArray, List.getElem?_cons_zero, List.getElem?_cons_succ]; (repeat (first | go_big_quiet_skip | (go_big_quiet_want; first | (go_big_quiet_op; first | go_big_quiet_on | ((first | with_reducible refine ⟨_, fun _ _ => rfl, ?_⟩); go_big_quiet_on)) | (simp (contextual := true) [go_sem, F0]; with_reducible refine ⟨_, fun _ _ => rfl, ?_⟩; go_big_quiet_on)))); refine wpQuiet_nil ?_
            go_wp2_with fail
            rw [← HW3.out, ← HGN.out]
            have hb3 : Below w2.heap.size w2 w3 := by rw [HW3.out]; exact (Below.refl _ _).alloc (Nat.le_refl _) _
            have HI3 := Lib.hid (show ParInv w w3 m g A n c l q2 k fs al X cx from
              ⟨HI2.out.rdr.below hb3, HI2.out.prog.below hb3 HI2.out.prog.lt, HI2.out.place.below hb3 HI2.out.place.lt, HI2.out.fault.below hb3 HI2.out.fault.lt, (by rw [HW3.out]; exact HI2.out.own.alloc _), HI2.out.fns.below hb3, HI2.out.below.trans (hb3.mono (by have := HI2.out.prog.lt; omega)), HI2.out.tab.step hb3⟩)
            have HBX := Lib.hid (show ∀ j u, (fnaVals ⟨C, fn, fc, S, fm, fd⟩)[j]? = some u → w3.cell? ((⟨gn, 0, none⟩ : Addr).add j) = some u by
              have hb := Blk.new w2 31 #[.slice C fn fc, .slice S fm fd]
              rw [← HW3.out, ← HGN.out] at hb
              intro j u hu
              rw [Addr.add_lit, Nat.zero_add, hb.cell j]
              rw [List.getElem?_toArray]; exact hu)
            have C3 := Lib.hid (show S1c m (.slice X k cx) w3 by
              have q0 := HI3.out.prog.cell 0
              simp only [List.getElem?_toArray, List.getElem?_cons_zero] at q0
              exact q0)
            have HZ3 := Lib.hid (show g + 1 ≤ w3.heap.size from HI3.out.rdr.blk.lt)
            have c1' : Hid (k + 1 ≤ maxLen) := by unfold maxLen; show _ ≤ _; omega
            clear hb3
            refine ⟨S1c m (.slice X k cx), C3.out, fun _ h => h, ?_⟩
            (try simp only [Act.put, List.setIfInBounds_toArray, List.set_cons_zero, List.set_cons_succ]); refine schE_seg ?_; simp only [pickOps, List.getElem?_toArray, List.getElem?_cons_zero, List.getElem?_cons_succ]; (repeat (first | go_big_quiet_skip | (go_big_quiet_want; first | (go_big_quiet_op; first | go_big_quiet_on | ((first | with_reducible refine ⟨_, fun _ _ => rfl, ?_⟩); go_big_quiet_on)) | (simp (contextual := true) [go_sem, F0]; with_reducible refine ⟨_, fun _ _ => rfl, ?_⟩; go_big_quiet_on)))); refine wpQuiet_nil ?_
            go_wp2_with (at_builtin; go_must (refine wpList_append_1 _ rfl _ _ 22 rfl (g + 1) 31 i0 _ 2 48 Tryd.underlying22 HI5.out HZ0.out HZ1.out HZ2.out rfl (by decide) _ _ _ _ rfl HI3.out.own ⟨gn, 0, none⟩ 1 (fnaVals ⟨C, fn, fc, S, fm, fd⟩) rfl rfl HBX.out (by simp [fnaVals, Value.oneCell']) c1'.out (by omega) HZ3.out ?_); intro A' c2' w5 hown1 hgrow1 hat1)
            have hP5 : Blk w5 m 24 #[.slice X k cx] := HI3.out.prog.grown hgrow1 (fun e => by have := HI3.out.own.lt m e.symm; have := HGM.out; omega)
            have HB5 := Lib.hid hP5
            have HOW := Lib.hid hown1
            have HGR := Lib.hid hgrow1
            have HAT := Lib.hid hat1
            have q5 := hP5.cell 0
            simp only [List.getElem?_toArray, List.getElem?_cons_zero] at q5
            have f5 := hP5.frozen 0
            have C5 := Lib.hid (show S1c m (.slice X k cx) w5 from q5)
            clear hP5 hown1 hgrow1 hat1
            refine ⟨S1c m (.slice X k cx), C5.out, fun _ h => h, ?_⟩
            (try simp only [Act.put, List.setIfInBounds_toArray, List.set_cons_zero, List.set_cons_succ]); refine schE_last ?_; simp only [pickOps, List.getElem?_toArray, List.getElem?_cons_zero, List.getElem?_cons_succ]; (repeat (first | go_big_quiet_skip | (go_big_quiet_want; first | (go_big_quiet_op; first | go_big_quiet_on | ((first | with_reducible refine ⟨_, fun _ _ => rfl, ?_⟩); go_big_quiet_on)) | (simp (contextual := true) [go_sem, F0]; with_reducible refine ⟨_, fun _ _ => rfl, ?_⟩; go_big_quiet_on)))); refine wpQuiet_nil ?_
            clear F0
            go_wp2_with fail
            have hgm := HGM.out
            have hz3 := HZ3.out
            have HLOW := Lib.hid (show Below (g + 1) w3 w5 from low_of HGR.out (fun j hj => (HI3.out.own.lt j hj).1) hz3)
            have HPUSH := Lib.hid (show FnsAt w5 (Off w5 g A') (al ++ [⟨C, fn, fc, S, fm, fd⟩]) (fs ++ [f]) from
              FnsAt.push (wr := w2) (o := .cells #[.slice C fn fc, .slice S fm fd] 31) HI2.out.fns HF2.out (by rw [← HW3.out]; exact HGR.out) (by rw [← HW3.out]; exact HAT.out))
            go_roundw
            case rel =>
              refine ⟨k + 1, q2, fs ++ [f], al ++ [⟨C, fn, fc, S, fm, fd⟩], A', c2', by omega, by go_num, Lib.hid ⟨HRC.out, ?_, ?_, ?_, ?_, ?_, ?_, ?_, ?_⟩⟩
              · have h1 := HI3.out.rdr.low HLOW.out (by omega)
                exact ⟨h1.blk.far (p := ⟨m, 0, none⟩) (show g ≠ m by omega) _, h1.row.keep (fun p hp => World.cell?_of_block (Below.heap_setCell w5 ⟨m, 0, none⟩ _ p.block (show p.block ≠ m by omega))), h1.lt, h1.len, h1.cap, h1.capm, h1.byte, h1.pos, h1.small⟩
              · simpa using HB5.out.set_ 0 (.slice A' (k + 1) c2')
              · exact (HI3.out.place.below HLOW.out (by omega)).far (p := ⟨m, 0, none⟩) (show m + 1 ≠ m by omega) _
              · exact (HI3.out.fault.below HLOW.out (by omega)).far (p := ⟨m, 0, none⟩) (show m + 2 ≠ m by omega) _
              · rw [List.flatMap_append]
                simpa using HOW.out.setCell ⟨m, 0, none⟩ (.slice A' (k + 1) c2') (HOW.out.ne_lt (show m < g + 1 by omega))
              · exact (HPUSH.out.keep (fun b hS => Below.heap_setCell _ _ _ _ (show b ≠ m by have := hS.2.1; omega))).mono (fun b hS => ⟨by simpa [World.setCell] using hS.1, hS.2⟩)
              · exact (HI3.out.below.trans (HLOW.out.mono (by omega))).setCell (p := ⟨m, 0, none⟩) (Nat.le_refl _) _
              · exact HI3.out.tab.keep ((HLOW.out.mono (show m ≤ g + 1 by omega)).setCell (p := ⟨m, 0, none⟩) (Nat.le_refl _) _) h0m
            case measure => simp [intOf]; omega
        · have hkx : k = x := by omega
          subst hkx
          obtain ⟨r0, r1⟩ := HI.out.2.rdr.cells
          have hq : q ≤ n := HI.out.2.rdr.pos
          have p1 := HI.out.2.place.cell 0
          have p2 := HI.out.2.fault.cell 0
          simp only [List.getElem?_toArray, List.getElem?_cons_zero] at p1 p2
          by_cases hqn : q < n
          · have HE := Lib.hid (show rdP l = .bad q by rw [HE0.out, HI.out.1]; simp only; rw [if_pos (by rw [HI.out.2.rdr.len]; exact hqn)])
            have HK0 := Lib.hid HI.out.2.prog
            have HK1 := Lib.hid HI.out.2.place
            have HK2 := Lib.hid HI.out.2.fault
            have HBM := Lib.hid HI.out.2.below
            go_wp2_with fail
            refine leaves_cons (f := 36) (args := #[.pointer (some ⟨m, 0, none⟩), .pointer (some ⟨m + 1, 0, none⟩), .pointer (some ⟨m + 2, 0, none⟩)]) (by simp) (by simp [go_sem]) ?_
            refine (catch_wrong m (m + 1) (m + 2) q _ _ _ [] wr HK0.out HK1.out HK2.out (by omega) m (by have := HK0.out.lt; omega)).mono ?_
            rintro e u' wz ⟨rfl, rfl, p0, p1, p2, hbz⟩
            have d0 := p0.cell 0
            have d1 := p1.cell 0
            have d2 := p2.cell 0
            simp only [List.getElem?_toArray, List.getElem?_cons_zero] at d0 d1 d2
            have hpi : ParseIs w l (.returned (.tuple #[.agg #[.slice none 0 0], .int .i64 q, .int .i64 4])) wz := by
              unfold ParseIs
              rw [HE.out, ← HM.out]
              exact ⟨rfl, HBM.out.trans hbz⟩
            clear p0 p1 p2 hbz
            simp [Leaves, settle, results, Tryd.results16, go_sem, d0, d1, d2]
            exact hpi
          · have HE := Lib.hid (show rdP l = .ok fs 0 by rw [HE0.out, HI.out.1]; simp only; rw [if_neg (by rw [HI.out.2.rdr.len]; exact hqn)])
            have f0 := HI.out.2.prog.frozen 0
            have f1 := HI.out.2.place.frozen 0
            have f2 := HI.out.2.fault.frozen 0
            have hqn' : q = n := by omega
            go_wp2_with fail
            refine leaves_cons (f := 36) (args := #[.pointer (some ⟨m, 0, none⟩), .pointer (some ⟨m + 1, 0, none⟩), .pointer (some ⟨m + 2, 0, none⟩)]) (by simp) (by simp [go_sem]) ?_
            refine (catch_idle m (m + 1) (m + 2) _).mono ?_
            rintro e u' wz ⟨rfl, rfl, rfl⟩
            have hnew : FnsNew wr (g + 1) X fs := ⟨al, HI.out.2.fns.mono (fun b hb => ⟨by have := hb.2.1; omega, hb.1⟩), HI.out.2.own.rowS⟩
            have hpi : ParseIs w l (.returned (.tuple #[.agg #[.slice X k cx], .int .i64 0, .int .i64 0])) (((wr.setCell ⟨m, 0, none⟩ (.slice X k cx)).setCell ⟨m + 1, 0, none⟩ (.int .i64 0)).setCell ⟨m + 2, 0, none⟩ (.int .i64 0)) := by
              unfold ParseIs
              have hgm := HGM.out
              have hlen : k = fs.length := (rdFs_len l 1 k fs q HI.out.1).symm
              rw [HE.out, ← HM.out]
              refine ⟨⟨X, cx, by rw [hlen], ?_⟩, ?_⟩
              · exact (((hnew.far (p := ⟨m, 0, none⟩) (show m < g + 1 by omega) _).far (p := ⟨m + 1, 0, none⟩) (show m + 1 < g + 1 by omega) _).far (p := ⟨m + 2, 0, none⟩) (show m + 2 < g + 1 by omega) _).base (by omega)
              · exact ((HI.out.2.below.setCell (p := ⟨m, 0, none⟩) (Nat.le_refl _) _).setCell (p := ⟨m + 1, 0, none⟩) (show m ≤ m + 1 by omega) _).setCell (p := ⟨m + 2, 0, none⟩) (show m ≤ m + 2 by omega) _
            clear hnew
            simp [Leaves, settle, results, Tryd.results16, go_sem, q0, p1, p2]
            exact hpi
end Go.Proofs.YthcbceaeobnmgaaDoor
namespace Go.Proofs.YthcbceaeobnmgaaDoor
open Go.RowKit
/-- Bytes that lie in memory. -/
structure Bys (w : World) (A : Option Addr) (n c : Nat) (l : List Nat) : Prop where
  row : Row w w.heap.size A (byteVals l)
  len : l.length = n
  cap : n ≤ c
  capm : c ≤ maxLen
  byte : ∀ x ∈ l, x < 256
  small : n ≤ 3000
theorem Bys.step {w w' : World} {A : Option Addr} {n c : Nat} {l : List Nat} (h : Bys w A n c l) (hb : Below w.heap.size w w') : Bys w' A n c l := ⟨(h.row.below hb).more hb.size, h.len, h.cap, h.capm, h.byte, h.small⟩
theorem Bys.at_ {w : World} {A : Option Addr} {n c : Nat} {l : List Nat} (h : Bys w A n c l) {b off q : Nat} (hA : A = some ⟨b, off, none⟩) (hq : q < n) : w.cell? ⟨b, off + q, none⟩ = some (.int .u8 (l.getD q 0 : Nat)) ∧ l.getD q 0 < 256 := by
  have hql : q < l.length := by rw [h.len]; exact hq
  obtain ⟨b', off', e, _, hc⟩ := h.row.at_ (k := q) (by simp [byteVals]; exact hql)
  rw [hA] at e
  injection e with e
  injection e with e1 e2
  subst e1 e2
  have e3 : l.getD q 0 = l[q] := by simp [hql]
  rw [e3]
  exact ⟨hc q _ (byteVals_at l q hql), h.byte _ (List.getElem_mem hql)⟩
theorem Bys.some_ {w : World} {A : Option Addr} {n c : Nat} {l : List Nat} (h : Bys w A n c l) (hn : 0 < n) : ∃ b off, A = some ⟨b, off, none⟩ ∧ b < w.heap.size := by
  obtain ⟨b, off, e, hb, _⟩ := h.row.at_ (k := 0) (by simp [byteVals]; rw [h.len]; exact hn)
  exact ⟨b, off, e, hb⟩
theorem Bys.sub {w : World} {b off : Nat} {n c : Nat} {l : List Nat} (h : Bys w (some ⟨b, off, none⟩) n c l) (q k : Nat) : Row w w.heap.size (some ⟨b, off + q, none⟩) (byteVals ((l.drop q).take k)) := by
  rcases h.row with h1 | ⟨b', off', e, hb, hc⟩
  · left
    have : l = [] := by cases l with
      | nil => rfl
      | cons a l => simp [byteVals] at h1
    subst this
    simp [byteVals]
  · injection e with e
    injection e with e1 e2
    subst e1 e2
    right
    refine ⟨b, off + q, rfl, hb, fun j u hu => ?_⟩
    rw [Nat.add_assoc]
    refine hc (q + j) u ?_
    unfold byteVals at hu ⊢
    rw [List.getElem?_map] at hu ⊢
    rw [List.getElem?_take] at hu
    split at hu
    · rw [List.getElem?_drop] at hu; exact hu
    · cases hu
theorem fold_lt : ∀ (l : List Nat) (acc : Nat), (∀ x ∈ l, x < 256) → l.foldl (fun n b => n * 256 + b) acc < (acc + 1) * 256 ^ l.length
  | [], acc, _ => by simp
  | y :: l, acc, h => by
    have h1 := fold_lt l (acc * 256 + y) (fun x hx => h x (by simp [hx]))
    have h2 := h y (by simp)
    rw [List.foldl_cons, List.length_cons, Nat.pow_succ]
    have h3 : (acc * 256 + y + 1) * 256 ^ l.length ≤ ((acc + 1) * 256) * 256 ^ l.length := Nat.mul_le_mul_right _ (by omega)
    have h4 : ((acc + 1) * 256) * 256 ^ l.length = (acc + 1) * (256 ^ l.length * 256) := by rw [Nat.mul_assoc, Nat.mul_comm 256]
    omega
theorem valN_lt (l : List Nat) (h : ∀ x ∈ l, x < 256) : valN l < 256 ^ l.length := by
  have := fold_lt l 0 h
  rw [Nat.zero_add, Nat.one_mul] at this
  exact this
/-- What one hands back. -/
def OneOut (w : World) (l : List Nat) (p : Nat) (e : Ending) (w' : World) : Prop :=
  (match rdF l p with
    | .ok f q => ∃ a : FnA, e = .returned (.tuple #[.agg #[.slice a.C a.n a.c, .slice a.S a.m a.d], .int .i64 q, .bool true]) ∧ FnS w' (fun b => w.heap.size ≤ b ∧ b < w'.heap.size) a f
    | .bad q => ∃ a : FnA, e = .returned (.tuple #[.agg #[.slice a.C a.n a.c, .slice a.S a.m a.d], .int .i64 q, .bool false])) ∧ Below w.heap.size w w'
theorem one_bad {w w' : World} {l : List Nat} {p q : Nat} {C S : Option Addr} {n1 c1 m1 d1 : Nat} (hr : rdF l p = .bad q) (hb : Below w.heap.size w w') : OneOut w l p (.returned (.tuple #[.agg #[.slice C n1 c1, .slice S m1 d1], .int .i64 q, .bool false])) w' := by
  unfold OneOut
  rw [hr]
  exact ⟨⟨⟨C, n1, c1, S, m1, d1⟩, rfl⟩, hb⟩
/-- What holds in one's loop. -/
structure OneInv (w wr : World) (gR gV : Nat) (A : Option Addr) (n c : Nat) (l : List Nat) (k : Nat) (xs : List Ins) (X : Option Addr) (cx : Nat) : Prop where
  bys : Bys wr A n c l
  res : Blk wr gR 31 #[.slice none 0 0, .slice none 0 0]
  var : Blk wr gV 31 #[.slice X k cx, .slice none 0 0]
  own : Own wr (gV + 1) 33 5 X k cx (xs.flatMap insVals)
  below : Below w.heap.size w wr
theorem OneInv.step {w wr w1 : World} {gR gV n c k cx : Nat} {A X : Option Addr} {l : List Nat} {xs : List Ins} (h : OneInv w wr gR gV A n c l k xs X cx) (hb : Below wr.heap.size wr w1) : OneInv w w1 gR gV A n c l k xs X cx :=
  ⟨h.bys.step hb, h.res.below hb h.res.lt, h.var.below hb h.var.lt, h.own.kept (grown_of_below hb none) (by cases X with | none => exact .inl rfl | some q => right; intro h; cases h), h.below.trans (hb.mono h.below.size)⟩
theorem Bys.low {w w' : World} {b off m : Nat} {n c : Nat} {l : List Nat} (h : Bys w (some ⟨b, off, none⟩) n c l) (hl : Below m w w') (hb : b < m) : Bys w' (some ⟨b, off, none⟩) n c l := by
  refine ⟨?_, h.len, h.cap, h.capm, h.byte, h.small⟩
  rcases h.row with h1 | ⟨b', off', e, hb', hc⟩
  · exact .inl h1
  · injection e with e
    injection e with e1 e2
    subst e1 e2
    exact .inr ⟨b, off, rfl, Nat.lt_of_lt_of_le hb' hl.size, fun j u hu => (hl.cell (p := ⟨b, off + j, none⟩) hb).trans (hc j u hu)⟩
theorem five_lit {w : World} {g : Nat} {t : TypeId} {a0 a1 a2 a3 a4 : Value} (h : Blk w g t #[a0, a1, a2, a3, a4]) (b0 b1 b2 b3 b4 : Value) :
    Blk (((((w.setCell ⟨g, 0, none⟩ b0).setCell ⟨g, 1, none⟩ b1).setCell ⟨g, 2, none⟩ b2).setCell ⟨g, 3, none⟩ b3).setCell ⟨g, 4, none⟩ b4) g t #[b0, b1, b2, b3, b4] := by
  simpa using ((((h.set_ 0 b0).set_ 1 b1).set_ 2 b2).set_ 3 b3).set_ 4 b4
theorem five_low {w w1 : World} {m g : Nat} (h : Below m w w1) (hm : m ≤ g) (b0 b1 b2 b3 b4 : Value) :
    Below m w (((((w1.setCell ⟨g, 0, none⟩ b0).setCell ⟨g, 1, none⟩ b1).setCell ⟨g, 2, none⟩ b2).setCell ⟨g, 3, none⟩ b3).setCell ⟨g, 4, none⟩ b4) :=
  ((((h.setCell (p := ⟨g, 0, none⟩) hm b0).setCell (p := ⟨g, 1, none⟩) hm b1).setCell (p := ⟨g, 2, none⟩) hm b2).setCell (p := ⟨g, 3, none⟩) hm b3).setCell (p := ⟨g, 4, none⟩) hm b4
theorem ins_new {w : World} {t : TypeId} (i : Ins) : ∀ j u, (insVals i)[j]? = some u → (w.alloc (.cells #[.int .i64 i.op, .int .i64 i.a, .int .i64 i.b, .int .i64 i.c, .int .i64 i.n] t)).cell? ((⟨w.heap.size, 0, none⟩ : Addr).add j) = some u := by
  intro j u hu
  rw [Addr.add_lit, Nat.zero_add, (Blk.new w t _).cell j, List.getElem?_toArray]
  exact hu
theorem two_ {w : World} {g : Nat} {t : TypeId} {x y : Value} (h : Blk w g t #[x, y]) : (w.cell? ⟨g, 0, none⟩ = some x ∧ w.cell? ⟨g, 1, none⟩ = some y) ∧ w.frozen? ⟨g, 0, none⟩ = false ∧ w.frozen? ⟨g, 1, none⟩ = false := by
  have q0 := h.cell 0
  have q1 := h.cell 1
  simp only [List.getElem?_toArray, List.getElem?_cons_zero, List.getElem?_cons_succ] at q0 q1
  exact ⟨⟨q0, q1⟩, h.frozen 0, h.frozen 1⟩
set_option maxHeartbeats 8000000 in
set_option maxRecDepth 100000 in
theorem one_any {w : World} {n c p : Nat} {A : Option Addr} {l : List Nat} (h : Bys w A n c l) (hp : p ≤ n) :
    Calls Tryd.prog 39 #[.slice A n c, .int .i64 p] w fun e w' => OneOut w l p e w' := by
  have hs := h.small
  have hWz : ∃ W : World, Hid (W = (w.alloc (.cells #[.slice none 0 0, .slice none 0 0] 31)).alloc (.cells #[.slice none 0 0, .slice none 0 0] 31)) := ⟨_, rfl⟩
  obtain ⟨W, HW⟩ := hWz
  have hgz : ∃ gR : Nat, Hid (gR = w.heap.size) := ⟨_, rfl⟩
  obtain ⟨gR, HGR⟩ := hgz
  have hgv : ∃ gV : Nat, Hid (gV = w.heap.size + 1) := ⟨_, rfl⟩
  obtain ⟨gV, HGV⟩ := hgv
  have HGG := Lib.hid (show gV = gR + 1 ∧ gR = w.heap.size by rw [HGV.out, HGR.out]; omega)
  have B2 : Below w.heap.size w W := by rw [HW.out]; exact ((Below.refl _ _).alloc (Nat.le_refl _) _).alloc (by simp) _
  have HI0 := Lib.hid (show OneInv w W gR gV A n c l 0 [] none 0 by
    refine ⟨h.step B2, ?_, ?_, Own.nil _ _ _ _, B2⟩
    · rw [HW.out, HGR.out]; exact (Blk.new w _ _).alloc _
    · have hb := Blk.new (w.alloc (.cells #[.slice none 0 0, .slice none 0 0] 31)) 31 #[.slice none 0 0, .slice none 0 0]
      rw [World.size_alloc] at hb
      rw [HW.out, HGV.out]; exact hb)
  clear B2
  by_cases h1 : n ≤ p
  · have HE := Lib.hid (show rdF l p = .bad p by unfold rdF; rw [if_pos (by rw [h.len]; exact h1), h.len]; congr 1; omega)
    have e1 : decide ((n : Int) ≤ (p : Int)) = true := by simp; omega
    clear h
    obtain ⟨⟨r0, r1⟩, rf0, rf1⟩ := two_ HI0.out.res
    obtain ⟨⟨v0, v1⟩, _, _⟩ := two_ HI0.out.var
    rw [HGR.out, HW.out] at r0 r1 rf0 rf1
    rw [HGV.out, HW.out] at v0 v1
    go_enter Tryd.func39, Tryd.ntmps39
    go_wp2_with fail
    refine bodyPost_ret (v := .tuple #[.agg #[.slice none 0 0, .slice none 0 0], .int .i64 p, .bool false]) (by simp [results, Tryd.results39, go_sem]) rfl (one_bad HE.out ?_)
    exact ((Below.refl _ _).alloc (Nat.le_refl _) _).alloc (by simp) _
  · have hpn : p < n := by omega
    obtain ⟨b, off, rfl, hbb⟩ := h.some_ (by omega)
    obtain ⟨y0, yb⟩ := HI0.out.bys.at_ rfl hpn
    rw [HW.out] at y0
    have hx : ∃ x : Nat, Hid (x = l.getD p 0) := ⟨_, rfl⟩
    obtain ⟨x, HX⟩ := hx
    rw [← HX.out] at y0 yb
    by_cases h64 : 64 < x
    · have HE := Lib.hid (show rdF l p = .bad p by unfold rdF; rw [if_neg (by rw [h.len]; exact h1), ← HX.out, if_pos h64])
      clear h h1
      go_enter Tryd.func39, Tryd.ntmps39
      go_wp2_with fail
      refine bodyPost_ret (v := .tuple #[.agg #[.slice none 0 0, .slice none 0 0], .int .i64 p, .bool false]) (by simp [results, Tryd.results39, go_sem]) rfl (one_bad HE.out ?_)
      exact ((Below.refl _ _).alloc (Nat.le_refl _) _).alloc (by simp) _
    · have HE0 := Lib.hid (show rdF l p = match rdCode l (p + 1) x with
        | .bad q => .bad q
        | .ok is q => if l.length < q + sizeS x then .bad l.length else if okS l q x = true then .ok ⟨is, parseL ((l.drop q).take (sizeS x))⟩ (q + sizeS x) else .bad q by unfold rdF; rw [if_neg (by rw [h.len]; exact h1), ← HX.out, if_neg h64]; rfl)
      clear h h1
      have d1 : decide (n ≤ p) = false := by simp; omega
      have d2 : decide (64 < (x : Int)) = false := by simp; omega
      go_enter Tryd.func39, Tryd.ntmps39
      go_wp2_with fail
      rw [← HW.out, ← HGV.out, ← HGR.out]
      clear d1 d2
      obtain ⟨i0, hi, hz0, hz1, hz2⟩ := info_parts Tryd.infoIns
      have HI5 := Lib.hid hi
      have HZ0 := Lib.hid hz0
      have HZ1 := Lib.hid hz1
      have HZ2 := Lib.hid hz2
      clear hi hz0 hz1 hz2
      go_loopw [1, 9] (fun va vi wr => ∃ (k q : Nat) (xs : List Ins) (X : Option Addr) (cx : Nat), k ≤ x ∧ q ≤ n ∧ vi = .int .i64 k ∧ va = .int .i64 q ∧ Hid (rdCode l (p + 1) k = .ok xs q ∧ OneInv w wr gR gV (some ⟨b, off, none⟩) n c l k xs X cx)) (fun _ vi _ => x - (intOf vi).toNat)
      case atStart => exact ⟨0, p + 1, [], none, 0, by omega, by omega, rfl, by go_num, Lib.hid ⟨rfl, HI0.out⟩⟩
      case round =>
        obtain ⟨k, q, xs, X, cx, hk, hqn, rfl, rfl, HI⟩ := hrel
        clear HI0 y0
        obtain ⟨⟨r0, r1⟩, rf0, rf1⟩ := two_ HI.out.2.res
        obtain ⟨⟨v0, v1⟩, vf0, vf1⟩ := two_ HI.out.2.var
        have HNE := Lib.hid (show ¬ gR = gV by have := HGG.out; omega)
        have hne := HNE.out
        by_cases hlt : k < x
        · have HBAD := Lib.hid (show ∀ r, rdI l q = .bad r → rdF l p = .bad r from fun r hr => by
            rw [HE0.out, rdCode_bad l (p + 1) (k + 1) x r (by unfold rdCode; rw [HI.out.1]; simp only; rw [hr]) (by omega)])
          by_cases hq : q < n
          · obtain ⟨y0, yb⟩ := HI.out.2.bys.at_ rfl hq
            have hy : ∃ y : Nat, Hid (y = l.getD q 0) := ⟨_, rfl⟩
            obtain ⟨y, HY⟩ := hy
            rw [← HY.out] at y0 yb
            have HRI := Lib.hid (show rdI l q = if isOpB (y : Int) = false then .bad q else if l.length < q + needI y then .bad l.length else .ok (insR l q) (q + needI y) by unfold rdI; rw [if_neg (by rw [HI.out.2.bys.len]; omega), ← HY.out])
            go_wp2_with fail
            refine (ris_any (y : Int) wr).mono ?_
            rintro e w2 ⟨rfl, hb2⟩
            have HI2 := Lib.hid (HI.out.2.step hb2)
            clear r0 r1 rf0 rf1 v0 v1 vf0 vf1 y0 hb2
            obtain ⟨⟨r0, r1⟩, rf0, rf1⟩ := two_ HI2.out.res
            obtain ⟨⟨v0, v1⟩, vf0, vf1⟩ := two_ HI2.out.var
            obtain ⟨y0, _⟩ := HI2.out.bys.at_ rfl hq
            rw [← HY.out] at y0
            cases hop : isOpB (y : Int) with
            | false =>
              have HE := Lib.hid (HBAD.out q (by rw [HRI.out, hop]; rfl))
              clear hop
              go_wp2_with fail
              refine bodyPost_ret (v := .tuple #[.agg #[.slice X k cx, .slice none 0 0], .int .i64 q, .bool false]) (by simp [results, Tryd.results39, go_sem, r0, r1]) rfl (one_bad HE.out ?_)
              exact (HI2.out.below.setCell (p := ⟨gR, 0, none⟩) (by have := HGG.out; show _ ≤ gR; omega) _).setCell (p := ⟨gR, 1, none⟩) (by have := HGG.out; show _ ≤ gR; omega) _
            | true =>
              have HRI2 := Lib.hid (show rdI l q = if l.length < q + needI y then .bad l.length else .ok (insR l q) (q + needI y) by rw [HRI.out, hop]; rfl)
              clear hop
              go_wp2_with fail
              refine (rlong_any (y : Int) w2).mono ?_
              rintro e w' ⟨rfl, rfl⟩
              cases hlg : longB (y : Int) with
              | false =>
                have HN := Lib.hid (show needI y = 4 by unfold needI; rw [hlg, if_neg (by simp)])
                have HLG := Lib.hid hlg
                clear hlg
                by_cases hlen : n < q + 4
                · have HE := Lib.hid (HBAD.out n (by rw [HRI2.out, HN.out, HI2.out.bys.len, if_pos hlen]))
                  have e2 : decide ((n : Int) < (q : Int) + 4) = true := by simp; omega
                  have e3 : decide (n < q + 4) = true := by simp; omega
                  go_wp2_with fail
                  refine bodyPost_ret (v := .tuple #[.agg #[.slice X k cx, .slice none 0 0], .int .i64 n, .bool false]) (by simp [results, Tryd.results39, go_sem, r0, r1]) rfl (one_bad HE.out ?_)
                  exact (HI2.out.below.setCell (p := ⟨gR, 0, none⟩) (by have := HGG.out; show _ ≤ gR; omega) _).setCell (p := ⟨gR, 1, none⟩) (by have := HGG.out; show _ ≤ gR; omega) _
                · have HRC := Lib.hid (show rdCode l (p + 1) (k + 1) = .ok (xs ++ [insR l q]) (q + 4) by unfold rdCode; rw [HI.out.1]; simp only; rw [HRI2.out, HN.out, HI2.out.bys.len, if_neg hlen])
                  have e2 : decide ((n : Int) < (q : Int) + 4) = false := by simp; omega
                  have e3 : decide (n < q + 4) = false := by simp; omega
                  go_wp2_with fail
                  have hy1 : ∃ y1 : Nat, Hid (y1 = l.getD (q + 1) 0) := ⟨_, rfl⟩
                  obtain ⟨y1, HY1⟩ := hy1
                  have hy2 : ∃ y2 : Nat, Hid (y2 = l.getD (q + 2) 0) := ⟨_, rfl⟩
                  obtain ⟨y2, HY2⟩ := hy2
                  have hy3 : ∃ y3 : Nat, Hid (y3 = l.getD (q + 3) 0) := ⟨_, rfl⟩
                  obtain ⟨y3, HY3⟩ := hy3
                  have F0 : ∀ w', Below w2.heap.size w2 w' → w'.cell? ⟨b, off + q, none⟩ = some (.int .u8 y) := fun w' h => by rw [HY.out]; exact ((HI2.out.bys.step h).at_ rfl hq).1
                  have F1 : ∀ w', Below w2.heap.size w2 w' → w'.cell? ⟨b, off + (q + 1), none⟩ = some (.int .u8 y1) := fun w' h => by rw [HY1.out]; exact ((HI2.out.bys.step h).at_ rfl (q := q + 1) (by omega)).1
                  have F2 : ∀ w', Below w2.heap.size w2 w' → w'.cell? ⟨b, off + (q + 2), none⟩ = some (.int .u8 y2) := fun w' h => by rw [HY2.out]; exact ((HI2.out.bys.step h).at_ rfl (q := q + 2) (by omega)).1
                  have F3 : ∀ w', Below w2.heap.size w2 w' → w'.cell? ⟨b, off + (q + 3), none⟩ = some (.int .u8 y3) := fun w' h => by rw [HY3.out]; exact ((HI2.out.bys.step h).at_ rfl (q := q + 3) (by omega)).1
                  have by1 := ((HI2.out.bys).at_ rfl (q := q + 1) (by omega)).2
                  have by2 := ((HI2.out.bys).at_ rfl (q := q + 2) (by omega)).2
                  have by3 := ((HI2.out.bys).at_ rfl (q := q + 3) (by omega)).2
                  rw [← HY1.out] at by1
                  rw [← HY2.out] at by2
                  rw [← HY3.out] at by3
                  clear r0 r1 rf0 rf1 v0 v1 vf0 vf1 y0
                  refine region_schE (fun w' => Below w2.heap.size w2 w') [([0, 1, 2, 3, 4, 5, 6, 7, 8, 9, 10, 11, 12, 13, 14, 15, 16, 17, 18, 19, 20, 21, 22, 23], 24)] [] 25 (by kernel_rfl) (by kernel_rfl) (by kernel_rfl) (fun _ _ d _ _ h => by cases d <;> exact h) (Below.refl _ _).drew ?_
                  (try simp only [Act.put, List.setIfInBounds_toArray, List.set_cons_zero, List.set_cons_succ]); refine schE_seg ?_; simp only [pickOps, List.getElem?_toArray, List.getElem?_cons_zero, List.getElem?_cons_succ]; (repeat (first | go_big_quiet_skip | (go_big_quiet_want; first | (go_big_quiet_op; first | go_big_quiet_on | ((first | with_reducible refine ⟨_, fun _ _ => rfl, ?_⟩); go_big_quiet_on)) | (simp (contextual := true) [go_sem, F0, F1, F2, F3]; with_reducible refine ⟨_, fun _ _ => rfl, ?_⟩; go_big_quiet_on)))); refine wpQuiet_nil ?_
                  go_wp2_with fail
                  have hgi : ∃ gI : Nat, Hid (gI = w2.heap.size) := ⟨_, rfl⟩
                  obtain ⟨gI, HGI⟩ := hgi
                  have hwa : ∃ wa : World, Hid (wa = (w2.alloc (.cells #[.int .i64 0, .int .i64 0, .int .i64 0, .int .i64 0, .int .i64 0] 33)).drew) := ⟨_, rfl⟩
                  obtain ⟨wa, HWA⟩ := hwa
                  rw [← HWA.out, ← HGI.out]
                  have hba : Below w2.heap.size w2 wa := by rw [HWA.out]; exact ((Below.refl _ _).alloc (Nat.le_refl _) _).drew
                  have HBA := Lib.hid (show Blk wa gI 33 #[.int .i64 0, .int .i64 0, .int .i64 0, .int .i64 0, .int .i64 0] by rw [HWA.out, HGI.out]; exact (Blk.new w2 _ _).drew)
                  refine ⟨fun w' => Below gI w2 w', by rw [HGI.out]; exact hba, fun _ h => h, ?_⟩
                  have HLA := Lib.hid hba
                  clear hba
                  (try simp only [Act.put, List.setIfInBounds_toArray, List.set_cons_zero, List.set_cons_succ]); refine schE_last ?_; simp only [pickOps, List.getElem?_toArray, List.getElem?_cons_zero, List.getElem?_cons_succ]; (repeat (first | go_big_quiet_skip | (go_big_quiet_want; first | (go_big_quiet_op; first | go_big_quiet_on | ((first | with_reducible refine ⟨_, fun _ _ => rfl, ?_⟩); go_big_quiet_on)) | (simp (contextual := true) [go_sem, F0]; with_reducible refine ⟨_, fun _ _ => rfl, ?_⟩; go_big_quiet_on)))); refine wpQuiet_nil ?_
                  have j0 := HBA.out.cell 0
                  have j1 := HBA.out.cell 1
                  have j2 := HBA.out.cell 2
                  have j3 := HBA.out.cell 3
                  have j4 := HBA.out.cell 4
                  simp only [List.getElem?_toArray, List.getElem?_cons_zero, List.getElem?_cons_succ] at j0 j1 j2 j3 j4
                  have jf0 := HBA.out.frozen 0
                  have jf1 := HBA.out.frozen 1
                  have jf2 := HBA.out.frozen 2
                  have jf3 := HBA.out.frozen 3
                  have jf4 := HBA.out.frozen 4
                  clear F0 F1 F2 F3
                  go_upto_region 17 with (fail)
                  have hw3 : ∃ w3 : World, Hid (w3 = ((((wa.setCell ⟨gI, 0, none⟩ (.int .i64 y)).setCell ⟨gI, 1, none⟩ (.int .i64 y1)).setCell ⟨gI, 2, none⟩ (.int .i64 y2)).setCell ⟨gI, 3, none⟩ (.int .i64 y3)).setCell ⟨gI, 4, none⟩ (.int .i64 0)) := ⟨_, rfl⟩
                  obtain ⟨w3, HW3⟩ := hw3
                  rw [← HW3.out]
                  have HB3 := Lib.hid (show Blk w3 gI 33 #[.int .i64 y, .int .i64 y1, .int .i64 y2, .int .i64 y3, .int .i64 0] by rw [HW3.out]; exact five_lit HBA.out _ _ _ _ _)
                  have hb3 : Below w2.heap.size w2 w3 := by rw [HW3.out]; exact five_low HLA.out (by rw [HGI.out]; exact Nat.le_refl _) _ _ _ _ _
                  have HI3 := Lib.hid (HI2.out.step hb3)
                  have hiV : Hid (insR l q = ⟨(y : Int), (y1 : Int), (y2 : Int), (y3 : Int), 0⟩) := Lib.hid (by unfold insR; rw [← HY.out, ← HY1.out, ← HY2.out, ← HY3.out, HLG.out]; rfl)
                  clear j0 j1 j2 j3 j4 jf0 jf1 jf2 jf3 jf4 hb3
                  obtain ⟨⟨v0, v1⟩, vf0, vf1⟩ := two_ HI3.out.var
                  have j0 := HB3.out.cell 0
                  have j1 := HB3.out.cell 1
                  have j2 := HB3.out.cell 2
                  have j3 := HB3.out.cell 3
                  have j4 := HB3.out.cell 4
                  simp only [List.getElem?_toArray, List.getElem?_cons_zero, List.getElem?_cons_succ] at j0 j1 j2 j3 j4
                  have c1' : Hid (k + 1 ≤ maxLen) := by unfold maxLen; show _ ≤ _; omega
                  have HZ3 := Lib.hid (show gV + 1 ≤ w3.heap.size from HI3.out.var.lt)
                  go_wp2_with (at_builtin; go_must (refine wpList_append_1 _ rfl _ _ 28 rfl (gV + 1) 33 i0 _ 5 40 Tryd.underlying28 HI5.out HZ0.out HZ1.out HZ2.out rfl (by decide) _ _ _ _ rfl (HI3.out.own.alloc _) ⟨w3.heap.size, 0, none⟩ 1 (insVals ⟨(y : Int), (y1 : Int), (y2 : Int), (y3 : Int), 0⟩) rfl rfl (ins_new _) (by simp [insVals, Value.oneCell']) c1'.out (by omega) (by rw [World.size_alloc]; have := HZ3.out; omega) ?_); intro A' c2' w5 hown1 hgrow1 hat1; have hP5 := two_ (HI3.out.var.alloc _ |>.grown hgrow1 (fun e => by have := HI3.out.own.lt gV e.symm; omega)); obtain ⟨⟨z0, z1⟩, zf0, zf1⟩ := hP5)
                  have HP5 := Lib.hid (HI3.out.var.alloc _ |>.grown hgrow1 (fun e => by have := HI3.out.own.lt gV e.symm; omega))
                  have HOW := Lib.hid hown1
                  have HLOW := Lib.hid (show Below (gV + 1) w3 w5 from ((Below.refl _ _).alloc HZ3.out _).trans (low_of (m := gV + 1) hgrow1 (fun j hj => (HI3.out.own.lt j hj).1) (by rw [World.size_alloc]; have := HZ3.out; omega)))
                  clear hown1 hgrow1 hat1
                  have hgg := HGG.out
                  go_roundw
                  case rel =>
                    refine ⟨k + 1, q + 4, xs ++ [insR l q], A', c2', by omega, by omega, by go_num, by go_num, Lib.hid ⟨HRC.out, ?_, ?_, ?_, ?_, ?_⟩⟩
                    · have hl : Below gR w3 (w5.setCell ⟨gV, 0, none⟩ (.slice A' (k + 1) c2')) := (HLOW.out.mono (by omega)).setCell (p := ⟨gV, 0, none⟩) (show gR ≤ gV by omega) _
                      exact HI3.out.bys.low hl (by omega)
                    · exact (HI3.out.res.below HLOW.out (by omega)).far (p := ⟨gV, 0, none⟩) (show gR ≠ gV by omega) _
                    · simpa using HP5.out.set_ 0 (.slice A' (k + 1) c2')
                    · rw [List.flatMap_append]
                      have h := HOW.out.setCell ⟨gV, 0, none⟩ (.slice A' (k + 1) c2') (HOW.out.ne_lt (show gV < gV + 1 by omega))
                      rw [hiV.out]
                      simpa using h
                    · exact (HI3.out.below.trans (HLOW.out.mono (by omega))).setCell (p := ⟨gV, 0, none⟩) (show w.heap.size ≤ gV by omega) _
                  case measure => simp [intOf]; omega

              | true =>
                have HN := Lib.hid (show needI y = 12 by unfold needI; rw [hlg, if_pos rfl])
                have HLG := Lib.hid hlg
                clear hlg
                by_cases hlen : n < q + 12
                · have HE := Lib.hid (HBAD.out n (by rw [HRI2.out, HN.out, HI2.out.bys.len, if_pos hlen]))
                  have e2 : decide ((n : Int) < (q : Int) + 12) = true := by simp; omega
                  have e3 : decide (n < q + 12) = true := by simp; omega
                  go_wp2_with fail
                  refine bodyPost_ret (v := .tuple #[.agg #[.slice X k cx, .slice none 0 0], .int .i64 n, .bool false]) (by simp [results, Tryd.results39, go_sem, r0, r1]) rfl (one_bad HE.out ?_)
                  exact (HI2.out.below.setCell (p := ⟨gR, 0, none⟩) (by have := HGG.out; show _ ≤ gR; omega) _).setCell (p := ⟨gR, 1, none⟩) (by have := HGG.out; show _ ≤ gR; omega) _
                · have HRC := Lib.hid (show rdCode l (p + 1) (k + 1) = .ok (xs ++ [insR l q]) (q + 12) by unfold rdCode; rw [HI.out.1]; simp only; rw [HRI2.out, HN.out, HI2.out.bys.len, if_neg hlen])
                  have e2 : decide ((n : Int) < (q : Int) + 12) = false := by simp; omega
                  have e3 : decide (n < q + 12) = false := by simp; omega
                  go_wp2_with fail
                  have hy1 : ∃ y1 : Nat, Hid (y1 = l.getD (q + 1) 0) := ⟨_, rfl⟩
                  obtain ⟨y1, HY1⟩ := hy1
                  have hy2 : ∃ y2 : Nat, Hid (y2 = l.getD (q + 2) 0) := ⟨_, rfl⟩
                  obtain ⟨y2, HY2⟩ := hy2
                  have hy3 : ∃ y3 : Nat, Hid (y3 = l.getD (q + 3) 0) := ⟨_, rfl⟩
                  obtain ⟨y3, HY3⟩ := hy3
                  have F0 : ∀ w', Below w2.heap.size w2 w' → w'.cell? ⟨b, off + q, none⟩ = some (.int .u8 y) := fun w' h => by rw [HY.out]; exact ((HI2.out.bys.step h).at_ rfl hq).1
                  have F1 : ∀ w', Below w2.heap.size w2 w' → w'.cell? ⟨b, off + (q + 1), none⟩ = some (.int .u8 y1) := fun w' h => by rw [HY1.out]; exact ((HI2.out.bys.step h).at_ rfl (q := q + 1) (by omega)).1
                  have F2 : ∀ w', Below w2.heap.size w2 w' → w'.cell? ⟨b, off + (q + 2), none⟩ = some (.int .u8 y2) := fun w' h => by rw [HY2.out]; exact ((HI2.out.bys.step h).at_ rfl (q := q + 2) (by omega)).1
                  have F3 : ∀ w', Below w2.heap.size w2 w' → w'.cell? ⟨b, off + (q + 3), none⟩ = some (.int .u8 y3) := fun w' h => by rw [HY3.out]; exact ((HI2.out.bys.step h).at_ rfl (q := q + 3) (by omega)).1
                  have by1 := ((HI2.out.bys).at_ rfl (q := q + 1) (by omega)).2
                  have by2 := ((HI2.out.bys).at_ rfl (q := q + 2) (by omega)).2
                  have by3 := ((HI2.out.bys).at_ rfl (q := q + 3) (by omega)).2
                  rw [← HY1.out] at by1
                  rw [← HY2.out] at by2
                  rw [← HY3.out] at by3
                  clear r0 r1 rf0 rf1 v0 v1 vf0 vf1 y0
                  refine region_schE (fun w' => Below w2.heap.size w2 w') [([0, 1, 2, 3, 4, 5, 6, 7, 8, 9, 10, 11, 12, 13, 14, 15, 16, 17, 18, 19, 20, 21, 22, 23], 24)] [] 25 (by kernel_rfl) (by kernel_rfl) (by kernel_rfl) (fun _ _ d _ _ h => by cases d <;> exact h) (Below.refl _ _).drew ?_
                  (try simp only [Act.put, List.setIfInBounds_toArray, List.set_cons_zero, List.set_cons_succ]); refine schE_seg ?_; simp only [pickOps, List.getElem?_toArray, List.getElem?_cons_zero, List.getElem?_cons_succ]; (repeat (first | go_big_quiet_skip | (go_big_quiet_want; first | (go_big_quiet_op; first | go_big_quiet_on | ((first | with_reducible refine ⟨_, fun _ _ => rfl, ?_⟩); go_big_quiet_on)) | (simp (contextual := true) [go_sem, F0, F1, F2, F3]; with_reducible refine ⟨_, fun _ _ => rfl, ?_⟩; go_big_quiet_on)))); refine wpQuiet_nil ?_
                  go_wp2_with fail
                  have hgi : ∃ gI : Nat, Hid (gI = w2.heap.size) := ⟨_, rfl⟩
                  obtain ⟨gI, HGI⟩ := hgi
                  have hwa : ∃ wa : World, Hid (wa = (w2.alloc (.cells #[.int .i64 0, .int .i64 0, .int .i64 0, .int .i64 0, .int .i64 0] 33)).drew) := ⟨_, rfl⟩
                  obtain ⟨wa, HWA⟩ := hwa
                  rw [← HWA.out, ← HGI.out]
                  have hba : Below w2.heap.size w2 wa := by rw [HWA.out]; exact ((Below.refl _ _).alloc (Nat.le_refl _) _).drew
                  have HBA := Lib.hid (show Blk wa gI 33 #[.int .i64 0, .int .i64 0, .int .i64 0, .int .i64 0, .int .i64 0] by rw [HWA.out, HGI.out]; exact (Blk.new w2 _ _).drew)
                  refine ⟨fun w' => Below gI w2 w', by rw [HGI.out]; exact hba, fun _ h => h, ?_⟩
                  have HLA := Lib.hid hba
                  clear hba
                  (try simp only [Act.put, List.setIfInBounds_toArray, List.set_cons_zero, List.set_cons_succ]); refine schE_last ?_; simp only [pickOps, List.getElem?_toArray, List.getElem?_cons_zero, List.getElem?_cons_succ]; (repeat (first | go_big_quiet_skip | (go_big_quiet_want; first | (go_big_quiet_op; first | go_big_quiet_on | ((first | with_reducible refine ⟨_, fun _ _ => rfl, ?_⟩); go_big_quiet_on)) | (simp (contextual := true) [go_sem, F0]; with_reducible refine ⟨_, fun _ _ => rfl, ?_⟩; go_big_quiet_on)))); refine wpQuiet_nil ?_
                  have j0 := HBA.out.cell 0
                  have j1 := HBA.out.cell 1
                  have j2 := HBA.out.cell 2
                  have j3 := HBA.out.cell 3
                  have j4 := HBA.out.cell 4
                  simp only [List.getElem?_toArray, List.getElem?_cons_zero, List.getElem?_cons_succ] at j0 j1 j2 j3 j4
                  have jf0 := HBA.out.frozen 0
                  have jf1 := HBA.out.frozen 1
                  have jf2 := HBA.out.frozen 2
                  have jf3 := HBA.out.frozen 3
                  have jf4 := HBA.out.frozen 4
                  clear F0 F1 F2 F3
                  go_upto_region 17 with (fail)
                  have hw3 : ∃ w3 : World, Hid (w3 = ((((wa.setCell ⟨gI, 0, none⟩ (.int .i64 y)).setCell ⟨gI, 1, none⟩ (.int .i64 y1)).setCell ⟨gI, 2, none⟩ (.int .i64 y2)).setCell ⟨gI, 3, none⟩ (.int .i64 y3)).setCell ⟨gI, 4, none⟩ (.int .i64 0)) := ⟨_, rfl⟩
                  obtain ⟨w3, HW3⟩ := hw3
                  rw [← HW3.out]
                  have HB3 := Lib.hid (show Blk w3 gI 33 #[.int .i64 y, .int .i64 y1, .int .i64 y2, .int .i64 y3, .int .i64 0] by rw [HW3.out]; exact five_lit HBA.out _ _ _ _ _)
                  have hb3 : Below w2.heap.size w2 w3 := by rw [HW3.out]; exact five_low HLA.out (by rw [HGI.out]; exact Nat.le_refl _) _ _ _ _ _
                  have HI3 := Lib.hid (HI2.out.step hb3)
                  have hbs : ∃ bs : List Nat, Hid (bs = (l.drop (q + 4)).take 8) := ⟨_, rfl⟩
                  obtain ⟨bs, HBS⟩ := hbs
                  have HBL := Lib.hid (show bs.length = 8 by rw [HBS.out, List.length_take, List.length_drop, HI3.out.bys.len]; omega)
                  have HBB := Lib.hid (show ∀ x ∈ bs, x < 256 by rw [HBS.out]; exact fun x hx => HI3.out.bys.byte x (List.mem_of_mem_drop (List.mem_of_mem_take hx)))
                  have HCE := Lib.hid (show ∀ j, j < 8 → ∃ z : Nat, w3.cell? ⟨b, off + (q + (4 + j)), none⟩ = some (.int .u8 z) ∧ z < 256 ∧ bs.take (j + 1) = bs.take j ++ [z] from fun j hj => by
                    obtain ⟨h1, h2⟩ := HI3.out.bys.at_ rfl (q := q + (4 + j)) (by omega)
                    refine ⟨_, h1, h2, ?_⟩
                    have hjb : j < bs.length := by rw [HBL.out]; exact hj
                    rw [List.take_succ_eq_append_getElem hjb]
                    congr 2
                    have h3 : q + (4 + j) < l.length := by rw [HI3.out.bys.len]; omega
                    have h4 : bs = (l.drop (q + 4)).take 8 := HBS.out
                    subst h4
                    simp only [List.getElem_take, List.getElem_drop]
                    simp [h3, Nat.add_assoc])
                  clear j0 j1 j2 j3 j4 jf0 jf1 jf2 jf3 jf4 hb3
                  go_wp2_with fail
                  go_loop [12, 13] (fun vn vj => ∃ j : Nat, j ≤ 8 ∧ vj = .int .i64 ((4 + j : Nat) : Int) ∧ vn = .int .u64 (valN (bs.take j) : Nat)) (fun _ vj => 12 - (intOf vj).toNat)
                  case atStart => exact ⟨0, by omega, rfl, rfl⟩
                  case round =>
                    obtain ⟨j, hj, rfl, rfl⟩ := hrel
                    by_cases hj8 : j < 8
                    · obtain ⟨z, hc, hz, ht⟩ := HCE.out j hj8
                      have hv := valN_lt (bs.take j) (fun x hx => HBB.out x (List.mem_of_mem_take hx))
                      have hle : (bs.take j).length ≤ 7 := by rw [List.length_take]; omega
                      have hp7 : 256 ^ (bs.take j).length ≤ 256 ^ 7 := Nat.pow_le_pow_right (by omega) hle
                      have HT := Lib.hid ht
                      have HVS := Lib.hid (valN_snoc (bs.take j) z)
                      have hvn : ∃ vn : Nat, Hid (vn = valN (bs.take j)) := ⟨_, rfl⟩
                      obtain ⟨vn, HVN⟩ := hvn
                      rw [← HVN.out] at hv HVS ⊢
                      have hv2 : vn < 72057594037927936 := Nat.lt_of_lt_of_le hv hp7
                      have e5 : IntKind.u64.wrap ((vn : Int) * 256) = (vn : Int) * 256 := by rw [IntKind.wrap_u64]; omega
                      have e6 : IntKind.u64.wrap ((vn : Int) * 256 + (z : Int)) = (vn : Int) * 256 + z := by rw [IntKind.wrap_u64]; omega
                      have e7 : ((q : Int) + (4 + (j : Int))).toNat = q + (4 + j) := by omega
                      clear ht hv hle hp7
                      go_wp2_with fail
                      go_round
                      case rel => exact ⟨j + 1, by omega, by go_num, by rw [HT.out, HVS.out]; go_num⟩
                      case measure => simp [intOf]; omega
                    · obtain rfl : j = 8 := by omega
                      have HTA := Lib.hid (show bs.take 8 = bs from List.take_of_length_le (by rw [HBL.out]; omega))
                      rw [HTA.out]
                      have hvn : ∃ vn : Nat, Hid (vn = valN bs) := ⟨_, rfl⟩
                      obtain ⟨vn, HVN⟩ := hvn
                      rw [← HVN.out]
                      have hnn : ∃ nn : Int, Hid (nn = numI bs) := ⟨_, rfl⟩
                      obtain ⟨nn, HNN⟩ := hnn
                      have e8 : IntKind.i64.wrap (vn : Int) = nn := by rw [HNN.out, HVN.out]; rfl
                      have hiV : Hid (insR l q = ⟨(y : Int), (y1 : Int), (y2 : Int), (y3 : Int), nn⟩) := Lib.hid (by unfold insR; rw [← HY.out, ← HY1.out, ← HY2.out, ← HY3.out, HLG.out, HNN.out, HBS.out]; rfl)
                      have j4 := HB3.out.cell 4
                      simp only [List.getElem?_toArray, List.getElem?_cons_zero, List.getElem?_cons_succ] at j4
                      have jf4 := HB3.out.frozen 4
                      go_upto_region 24 with (fail)
                      have hw4 : ∃ w4 : World, Hid (w4 = w3.setCell ⟨gI, 4, none⟩ (.int .i64 nn)) := ⟨_, rfl⟩
                      obtain ⟨w4, HW4⟩ := hw4
                      rw [← HW4.out]
                      have HB4 := Lib.hid (show Blk w4 gI 33 #[.int .i64 y, .int .i64 y1, .int .i64 y2, .int .i64 y3, .int .i64 nn] by rw [HW4.out]; simpa using HB3.out.set_ 4 (.int .i64 nn))
                      have hb4 : Below w2.heap.size w2 w4 := by rw [HW4.out, HW3.out]; exact (five_low HLA.out (by rw [HGI.out]; exact Nat.le_refl _) _ _ _ _ _).setCell (p := ⟨gI, 4, none⟩) (by rw [HGI.out]; exact Nat.le_refl _) _
                      have HI4 := Lib.hid (HI2.out.step hb4)
                      clear j4 jf4 e8 hb4
                      obtain ⟨⟨v0, v1⟩, vf0, vf1⟩ := two_ HI4.out.var
                      have j0 := HB4.out.cell 0
                      have j1 := HB4.out.cell 1
                      have j2 := HB4.out.cell 2
                      have j3 := HB4.out.cell 3
                      have j4 := HB4.out.cell 4
                      simp only [List.getElem?_toArray, List.getElem?_cons_zero, List.getElem?_cons_succ] at j0 j1 j2 j3 j4
                      have c1' : Hid (k + 1 ≤ maxLen) := by unfold maxLen; show _ ≤ _; omega
                      have HZ3 := Lib.hid (show gV + 1 ≤ w4.heap.size from HI4.out.var.lt)
                      go_wp2_with (at_builtin; go_must (refine wpList_append_1 _ rfl _ _ 28 rfl (gV + 1) 33 i0 _ 5 40 Tryd.underlying28 HI5.out HZ0.out HZ1.out HZ2.out rfl (by decide) _ _ _ _ rfl (HI4.out.own.alloc _) ⟨w4.heap.size, 0, none⟩ 1 (insVals ⟨(y : Int), (y1 : Int), (y2 : Int), (y3 : Int), nn⟩) rfl rfl (ins_new _) (by simp [insVals, Value.oneCell']) c1'.out (by omega) (by rw [World.size_alloc]; have := HZ3.out; omega) ?_); intro A' c2' w5 hown1 hgrow1 hat1; have hP5 := two_ (HI4.out.var.alloc _ |>.grown hgrow1 (fun e => by have := HI4.out.own.lt gV e.symm; omega)); obtain ⟨⟨z0, z1⟩, zf0, zf1⟩ := hP5)
                      have HP5 := Lib.hid (HI4.out.var.alloc _ |>.grown hgrow1 (fun e => by have := HI4.out.own.lt gV e.symm; omega))
                      have HOW := Lib.hid hown1
                      have HLOW := Lib.hid (show Below (gV + 1) w4 w5 from ((Below.refl _ _).alloc HZ3.out _).trans (low_of (m := gV + 1) hgrow1 (fun j hj => (HI4.out.own.lt j hj).1) (by rw [World.size_alloc]; have := HZ3.out; omega)))
                      clear hown1 hgrow1 hat1
                      have hgg := HGG.out
                      go_roundw
                      case rel =>
                        refine ⟨k + 1, q + 12, xs ++ [insR l q], A', c2', by omega, by omega, by go_num, by go_num, Lib.hid ⟨HRC.out, ?_, ?_, ?_, ?_, ?_⟩⟩
                        · have hl : Below gR w4 (w5.setCell ⟨gV, 0, none⟩ (.slice A' (k + 1) c2')) := (HLOW.out.mono (by omega)).setCell (p := ⟨gV, 0, none⟩) (show gR ≤ gV by omega) _
                          exact HI4.out.bys.low hl (by omega)
                        · exact (HI4.out.res.below HLOW.out (by omega)).far (p := ⟨gV, 0, none⟩) (show gR ≠ gV by omega) _
                        · simpa using HP5.out.set_ 0 (.slice A' (k + 1) c2')
                        · rw [List.flatMap_append]
                          have h := HOW.out.setCell ⟨gV, 0, none⟩ (.slice A' (k + 1) c2') (HOW.out.ne_lt (show gV < gV + 1 by omega))
                          rw [hiV.out]
                          simpa using h
                        · exact (HI4.out.below.trans (HLOW.out.mono (by omega))).setCell (p := ⟨gV, 0, none⟩) (show w.heap.size ≤ gV by omega) _
                      case measure => simp [intOf]; omega

          · have HE := Lib.hid (HBAD.out n (by unfold rdI; rw [HI.out.2.bys.len, if_pos (by omega)]))
            have e1 : decide ((q : Int) < (n : Int)) = false := by simp; omega
            have e2 : decide ((n : Int) < (q : Int) + 4) = true := by simp; omega
            have e3 : decide (n < q + 4) = true := by simp; omega
            go_wp2_with fail
            refine bodyPost_ret (v := .tuple #[.agg #[.slice X k cx, .slice none 0 0], .int .i64 n, .bool false]) (by simp [results, Tryd.results39, go_sem, r0, r1]) rfl (one_bad HE.out ?_)
            exact (HI.out.2.below.setCell (p := ⟨gR, 0, none⟩) (by have := HGG.out; show _ ≤ gR; omega) _).setCell (p := ⟨gR, 1, none⟩) (by have := HGG.out; show _ ≤ gR; omega) _
        · obtain rfl : k = x := by omega
          have hsz : ∃ sz : Nat, Hid (sz = sizeS k) := ⟨_, rfl⟩
          obtain ⟨sz, HSZ⟩ := hsz
          have hsz1 : 0 < sz ∧ sz ≤ 10 := by rw [HSZ.out]; unfold sizeS; omega
          have HE2 := Lib.hid (show rdF l p = if n < q + sz then .bad n else if okS l q k = true then .ok ⟨xs, parseL ((l.drop q).take sz)⟩ (q + sz) else .bad q by
            rw [HE0.out, HI.out.1, HSZ.out]; simp only; rw [HI.out.2.bys.len])
          have e8 : (2 : Int) + ((k : Int) + 7) / 8 = (sz : Int) := by rw [HSZ.out]; unfold sizeS; omega
          have HIX := Lib.hid HI.out.2
          have HIN := Lib.hid (rdCode_ok HIX.out.bys.byte (p + 1) k xs q HI.out.1)
          have HXL := Lib.hid (rdCode_len l (p + 1) k xs q HI.out.1)
          clear HI
          by_cases hlen : n < q + sz
          · have HE := Lib.hid (HE2.out.trans (if_pos hlen))
            have e2 : decide ((n : Int) < (q : Int) + (sz : Int)) = true := by simp; omega
            have e3 : decide (n < q + sz) = true := by simp; omega
            go_wp2_with fail
            refine bodyPost_ret (v := .tuple #[.agg #[.slice X k cx, .slice none 0 0], .int .i64 n, .bool false]) (by simp [results, Tryd.results39, go_sem, r0, r1]) rfl (one_bad HE.out ?_)
            exact (HIX.out.below.setCell (p := ⟨gR, 0, none⟩) (by have := HGG.out; show _ ≤ gR; omega) _).setCell (p := ⟨gR, 1, none⟩) (by have := HGG.out; show _ ≤ gR; omega) _
          · have HE3 := Lib.hid (HE2.out.trans (if_neg hlen))
            have e2 : decide ((n : Int) < (q : Int) + (sz : Int)) = false := by simp; omega
            have e3 : decide (n < q + sz) = false := by simp; omega
            have hcap := HIX.out.bys.cap
            have hcapm := HIX.out.bys.capm
            unfold maxLen at hcapm
            have hd : ∃ ds : List Nat, Hid (ds = (l.drop q).take sz) := ⟨_, rfl⟩
            obtain ⟨ds, HDS⟩ := hd
            have HDL := Lib.hid (show ds.length = sz by rw [HDS.out, List.length_take, List.length_drop, HIX.out.bys.len]; omega)
            have HRW := Lib.hid (show Row wr wr.heap.size (some ⟨b, off + q, none⟩) (byteVals ds) by rw [HDS.out]; exact HIX.out.bys.sub q sz)
            have HBY := Lib.hid (show ∀ x ∈ ds, x < 256 by rw [HDS.out]; exact fun x hx => HIX.out.bys.byte x (List.mem_of_mem_drop (List.mem_of_mem_take hx)))
            go_wp2_with fail
            rw [Nat.add_sub_cancel_left]
            refine (rparse_any (some ⟨b, off + q, none⟩) sz (c - q) ds wr HDL.out (by unfold maxLen; omega) HBY.out HRW.out).mono ?_
            intro e w7 hout
            have hok : okS l q k = (parseB ds && decide (parseN ds = k)) := by unfold okS; rw [← HSZ.out, ← HDS.out]
            rcases hout with ⟨hpb, S, cS, rfl, hOS, hb7⟩ | ⟨hpb, rfl, hb7⟩
            · have HI7 := Lib.hid (HIX.out.step hb7)
              have hm : ∃ m : Nat, Hid (m = parseN ds) := ⟨_, rfl⟩
              obtain ⟨m, HM⟩ := hm
              rw [← HM.out] at hOS ⊢
              clear r0 r1 rf0 rf1 v0 v1 vf0 vf1 hb7
              obtain ⟨⟨r0, r1⟩, rf0, rf1⟩ := two_ HI7.out.res
              obtain ⟨⟨v0, v1⟩, vf0, vf1⟩ := two_ HI7.out.var
              have HOS := Lib.hid (show Own w7 (gV + 1) 4 1 S m cS (boolVals (parseL ds)) from hOS.base_le HIX.out.var.lt)
              clear hOS
              have hml : m = (parseL ds).length := by rw [parseL_len, HM.out]
              by_cases hmk : m = k
              · have HE4 := Lib.hid (show rdF l p = .ok ⟨xs, parseL ds⟩ (q + sz) by rw [HE3.out, hok, hpb, ← HM.out, hmk, HDS.out]; simp)
                have hmk' : k = m := hmk.symm
                subst hmk'
                have HML := Lib.hid hml
                clear hmk
                clear hok hpb hml
                go_wp2_with fail
                refine bodyPost_ret (v := .tuple #[.agg #[.slice X k cx, .slice S k cS], .int .i64 ((q + sz : Nat) : Int), .bool true]) (by simp [results, Tryd.results39, go_sem, r0, r1]) rfl ?_
                have hgg := HGG.out
                have hX := ((HI7.out.own.setCell ⟨gV, 1, none⟩ (.slice S k cS) (HI7.out.own.ne_lt (by simp))).setCell ⟨gR, 0, none⟩ (.slice X k cx) (HI7.out.own.ne_lt (show gR < gV + 1 by omega))).setCell ⟨gR, 1, none⟩ (.slice S k cS) (HI7.out.own.ne_lt (show gR < gV + 1 by omega))
                have hS := ((HOS.out.setCell ⟨gV, 1, none⟩ (.slice S k cS) (HOS.out.ne_lt (by simp))).setCell ⟨gR, 0, none⟩ (.slice X k cx) (HOS.out.ne_lt (show gR < gV + 1 by omega))).setCell ⟨gR, 1, none⟩ (.slice S k cS) (HOS.out.ne_lt (show gR < gV + 1 by omega))
                unfold OneOut
                rw [HE4.out]
                refine ⟨⟨⟨X, k, cx, S, k, cS⟩, rfl, HXL.out.symm, HML.out, hX.rowS.mono (fun b hb => ⟨by omega, hb.2⟩), hS.rowS.mono (fun b hb => ⟨by omega, hb.2⟩), ?_, ?_, HIN.out⟩, ?_⟩
                · unfold maxLen; show k ≤ _; omega
                · unfold maxLen; show k ≤ _; omega
                · exact ((HI7.out.below.setCell (p := ⟨gV, 1, none⟩) (show _ ≤ gV by omega) _).setCell (p := ⟨gR, 0, none⟩) (show _ ≤ gR by omega) _).setCell (p := ⟨gR, 1, none⟩) (show _ ≤ gR by omega) _
              · have HE4 := Lib.hid (show rdF l p = .bad q by
                  have h : decide (parseN ds = k) = false := by rw [← HM.out]; simpa using hmk
                  rw [HE3.out, hok, hpb, h]; simp)
                have e5 : ((m : Int) != (k : Int)) = true := by simp; omega
                clear hok hpb hml
                go_wp2_with fail
                refine bodyPost_ret (v := .tuple #[.agg #[.slice X k cx, .slice none 0 0], .int .i64 q, .bool false]) (by simp [results, Tryd.results39, go_sem, r0, r1]) rfl (one_bad HE4.out ?_)
                exact (HI7.out.below.setCell (p := ⟨gR, 0, none⟩) (by have := HGG.out; show _ ≤ gR; omega) _).setCell (p := ⟨gR, 1, none⟩) (by have := HGG.out; show _ ≤ gR; omega) _
            · have HI7 := Lib.hid (HIX.out.step hb7)
              have HE4 := Lib.hid (show rdF l p = .bad q by rw [HE3.out, hok, hpb]; simp)
              clear r0 r1 rf0 rf1 v0 v1 vf0 vf1 hok hpb hb7
              obtain ⟨⟨r0, r1⟩, rf0, rf1⟩ := two_ HI7.out.res
              obtain ⟨⟨v0, v1⟩, vf0, vf1⟩ := two_ HI7.out.var
              go_wp2_with fail
              refine bodyPost_ret (v := .tuple #[.agg #[.slice X k cx, .slice none 0 0], .int .i64 q, .bool false]) (by simp [results, Tryd.results39, go_sem, r0, r1]) rfl (one_bad HE4.out ?_)
              exact (HI7.out.below.setCell (p := ⟨gR, 0, none⟩) (by have := HGG.out; show _ ≤ gR; omega) _).setCell (p := ⟨gR, 1, none⟩) (by have := HGG.out; show _ ≤ gR; omega) _
end Go.Proofs.YthcbceaeobnmgaaDoor
namespace Go.Proofs.YthcbceaeobnmgaaDoor
open Go.RowKit
/-- What holds in the reference's loop. -/
structure RpInv (w wr : World) (gR gP : Nat) (A : Option Addr) (n c : Nat) (l : List Nat) (k : Nat) (fs : List Fn) (al : List FnA) (X : Option Addr) (cx : Nat) : Prop where
  bys : Bys wr A n c l
  res : Blk wr gR 24 #[.slice none 0 0]
  var : Blk wr gP 24 #[.slice X k cx]
  own : Own wr (gP + 1) 31 2 X k cx (al.flatMap fnaVals)
  fns : FnsAt wr (Off wr gP X) al fs
  below : Below w.heap.size w wr
theorem RpInv.step {w wr w1 : World} {gR gP n c k cx : Nat} {A X : Option Addr} {l : List Nat} {fs : List Fn} {al : List FnA} (h : RpInv w wr gR gP A n c l k fs al X cx) (hb : Below wr.heap.size wr w1) : RpInv w w1 gR gP A n c l k fs al X cx :=
  ⟨h.bys.step hb, h.res.below hb h.res.lt, h.var.below hb h.var.lt, h.own.kept (grown_of_below hb none) (by cases X with | none => exact .inl rfl | some q => right; intro h; cases h), h.fns.below hb, h.below.trans (hb.mono h.below.size)⟩
theorem fna_new {w : World} (o : Obj) {t : TypeId} (a : FnA) : ∀ j u, (fnaVals a)[j]? = some u → ((w.alloc o).alloc (.cells #[.slice a.C a.n a.c, .slice a.S a.m a.d] t)).cell? ((⟨w.heap.size + 1, 0, none⟩ : Addr).add j) = some u := by
  intro j u hu
  have h := (Blk.new (w.alloc o) t #[.slice a.C a.n a.c, .slice a.S a.m a.d]).cell j
  rw [World.size_alloc] at h
  rw [Addr.add_lit, Nat.zero_add, h, List.getElem?_toArray]
  exact hu
theorem one_ {w : World} {g : Nat} {t : TypeId} {x : Value} (h : Blk w g t #[x]) : w.cell? ⟨g, 0, none⟩ = some x ∧ w.frozen? ⟨g, 0, none⟩ = false := by
  have q0 := h.cell 0
  simp only [List.getElem?_toArray, List.getElem?_cons_zero] at q0
  exact ⟨q0, h.frozen 0⟩
set_option maxHeartbeats 8000000 in
set_option maxRecDepth 100000 in
theorem rparse7_any {w : World} {n c : Nat} {A : Option Addr} {l : List Nat} (h : Bys w A n c l) :
    Calls Tryd.prog 17 #[.slice A n c] w fun e w' => ParseIs w l e w' := by
  have hs := h.small
  have hgz : ∃ gR : Nat, Hid (gR = w.heap.size) := ⟨_, rfl⟩
  obtain ⟨gR, HGR⟩ := hgz
  have hgv : ∃ gP : Nat, Hid (gP = w.heap.size + 1) := ⟨_, rfl⟩
  obtain ⟨gP, HGP⟩ := hgv
  have HGG := Lib.hid (show gP = gR + 1 ∧ gR = w.heap.size by rw [HGP.out, HGR.out]; omega)
  by_cases h1 : n = 0
  · have HE := Lib.hid (show rdP l = .bad 0 by unfold rdP; rw [if_pos (by rw [h.len]; exact h1)])
    subst h1
    clear h
    go_enter Tryd.func17, Tryd.ntmps17
    go_wp2_with fail
    refine bodyPost_ret (v := .tuple #[.agg #[.slice none 0 0], .int .i64 0, .int .i64 4]) (by simp [results, Tryd.results17, go_sem]) rfl ?_
    unfold ParseIs
    rw [HE.out]
    exact ⟨rfl, (Below.refl _ _).alloc (Nat.le_refl _) _⟩
  · obtain ⟨b, off, rfl, hbb⟩ := h.some_ (by omega)
    obtain ⟨y0, yb⟩ := h.at_ rfl (q := 0) (by omega)
    have hx : ∃ x : Nat, Hid (x = l.getD 0 0) := ⟨_, rfl⟩
    obtain ⟨x, HX⟩ := hx
    rw [← HX.out] at y0 yb
    rw [Nat.add_zero] at y0
    have hn1 : 1 ≤ n := by omega
    have e0 : ((n : Int) == 0) = false := by simp; omega
    have HN0 := Lib.hid (show ¬ l.length = 0 by rw [h.len]; exact h1)
    by_cases h16 : 16 < x
    · have HE := Lib.hid (show rdP l = .bad 0 by unfold rdP; rw [if_neg HN0.out, ← HX.out, if_pos h16])
      clear h h1
      go_enter Tryd.func17, Tryd.ntmps17
      go_wp2_with fail
      refine bodyPost_ret (v := .tuple #[.agg #[.slice none 0 0], .int .i64 0, .int .i64 4]) (by simp [results, Tryd.results17, go_sem]) rfl ?_
      unfold ParseIs
      rw [HE.out]
      exact ⟨rfl, (Below.refl _ _).alloc (Nat.le_refl _) _⟩
    · have HE0 := Lib.hid (show rdP l = match rdFs l 1 x with
        | .bad q => .bad q
        | .ok fs q => if q < l.length then .bad q else .ok fs 0 by unfold rdP; rw [if_neg HN0.out, ← HX.out, if_neg h16]; rfl)
      have hWz : ∃ W : World, Hid (W = (w.alloc (.cells #[.slice none 0 0] 24)).alloc (.cells #[.slice none 0 0] 24)) := ⟨_, rfl⟩
      obtain ⟨W, HW⟩ := hWz
      have B2 : Below w.heap.size w W := by rw [HW.out]; exact ((Below.refl _ _).alloc (Nat.le_refl _) _).alloc (by simp) _
      have HI0 := Lib.hid (show RpInv w W gR gP (some ⟨b, off, none⟩) n c l 0 [] [] none 0 by
        refine ⟨h.step B2, ?_, ?_, Own.nil _ _ _ _, FnsAt.nil _ _, B2⟩
        · rw [HW.out, HGR.out]; exact (Blk.new w _ _).alloc _
        · have hb := Blk.new (w.alloc (.cells #[.slice none 0 0] 24)) 24 #[.slice none 0 0]
          rw [World.size_alloc] at hb
          rw [HW.out, HGP.out]; exact hb)
      clear B2 h1
      have d2 : decide (16 < (x : Int)) = false := by simp; omega
      have HY := Lib.hid h
      clear h
      go_enter Tryd.func17, Tryd.ntmps17
      go_wp2_with fail
      rw [← HW.out, ← HGP.out, ← HGR.out]
      clear d2 y0
      obtain ⟨i0, hi, hz0, hz1, hz2⟩ := info_parts Tryd.infoFn7
      have HI5 := Lib.hid hi
      have HZ0 := Lib.hid hz0
      have HZ1 := Lib.hid hz1
      have HZ2 := Lib.hid hz2
      clear hi hz0 hz1 hz2
      go_loopw [6, 7] (fun va vi wr => ∃ (k q : Nat) (fs : List Fn) (al : List FnA) (X : Option Addr) (cx : Nat), k ≤ x ∧ q ≤ n ∧ vi = .int .i64 k ∧ va = .int .i64 q ∧ Hid (rdFs l 1 k = .ok fs q ∧ RpInv w wr gR gP (some ⟨b, off, none⟩) n c l k fs al X cx)) (fun _ vi _ => x - (intOf vi).toNat)
      case atStart => exact ⟨0, 1, [], [], none, 0, by omega, by omega, rfl, rfl, Lib.hid ⟨rfl, HI0.out⟩⟩
      case round =>
        obtain ⟨k, q, fs, al, X, cx, hk, hqn, rfl, rfl, HI⟩ := hrel
        clear HI0
        obtain ⟨y0, _⟩ := HI.out.2.bys.at_ rfl (q := 0) (by omega)
        rw [← HX.out, Nat.add_zero] at y0
        obtain ⟨r0, rf0⟩ := one_ HI.out.2.res
        obtain ⟨v0, vf0⟩ := one_ HI.out.2.var
        have HNE := Lib.hid (show ¬ gR = gP by have := HGG.out; omega)
        have hne := HNE.out
        by_cases hlt : k < x
        · go_wp2_with fail
          refine (one_any HI.out.2.bys hqn).mono ?_
          intro e w2 hout
          obtain ⟨hout, hb2⟩ := hout
          have HI2 := Lib.hid (HI.out.2.step hb2)
          have HSZ2 := Lib.hid hb2.size
          have hr : ∃ r, Hid (rdF l q = r) := ⟨_, rfl⟩
          obtain ⟨r, HR⟩ := hr
          rw [HR.out] at hout
          clear r0 rf0 v0 vf0 y0 hb2
          obtain ⟨r0, rf0⟩ := one_ HI2.out.res
          obtain ⟨v0, vf0⟩ := one_ HI2.out.var
          cases r with
          | bad q2 =>
            obtain ⟨⟨C, fn, fc, S, fm, fd⟩, rfl⟩ := hout
            obtain ⟨s0, sf0⟩ := one_ (HI2.out.res.alloc (.cells #[.slice C fn fc, .slice S fm fd] 31))
            have HE := Lib.hid (show rdP l = .bad q2 by
              rw [HE0.out, rdFs_bad l 1 (k + 1) x q2 (by unfold rdFs; rw [HI.out.1]; simp only; rw [HR.out]) (by omega)])
            go_wp2_with fail
            refine bodyPost_ret (v := .tuple #[.agg #[.slice none 0 0], .int .i64 q2, .int .i64 4]) (by simp [results, Tryd.results17, go_sem, s0]) rfl ?_
            unfold ParseIs
            rw [HE.out]
            have hgg := HGG.out
            exact ⟨rfl, (HI2.out.below.alloc HI2.out.below.size _).setCell (p := ⟨gR, 0, none⟩) (show _ ≤ gR by omega) _⟩
          | ok f q2 =>
            obtain ⟨⟨C, fn, fc, S, fm, fd⟩, rfl, hf⟩ := hout
            obtain ⟨s0, sf0⟩ := one_ (HI2.out.var.alloc (.cells #[.slice C fn fc, .slice S fm fd] 31))
            have HRC := Lib.hid (show rdFs l 1 (k + 1) = .ok (fs ++ [f]) q2 by unfold rdFs; rw [HI.out.1]; simp only; rw [HR.out])
            have hq2 : q2 ≤ n := by
              have h1 := rdF_in l q (by have := HI.out.2.bys.len; omega)
              rw [HR.out] at h1
              have h2 : q2 ≤ l.length := h1
              rw [HI.out.2.bys.len] at h2
              exact h2
            have HF2 := Lib.hid (show FnS w2 (Off w2 gP X) ⟨C, fn, fc, S, fm, fd⟩ f from hf.mono (fun b hb => ⟨hb.2, by have := HI.out.2.var.lt; omega, fun e => by have := (HI.out.2.own.lt b e).2; omega⟩))
            clear hf
            have HZ3 := Lib.hid (show gP + 1 ≤ w2.heap.size from HI2.out.var.lt)
            have c1' : Hid (k + 1 ≤ maxLen) := by unfold maxLen; show _ ≤ _; omega
            go_wp2_with (at_builtin; go_must (refine wpList_append_1 _ rfl _ _ 22 rfl (gP + 1) 31 i0 _ 2 48 Tryd.underlying22 HI5.out HZ0.out HZ1.out HZ2.out rfl (by decide) _ _ _ _ rfl ((HI2.out.own.alloc _).alloc _) ⟨w2.heap.size + 1, 0, none⟩ 1 (fnaVals ⟨C, fn, fc, S, fm, fd⟩) rfl rfl (fna_new _ _) (by simp [fnaVals, Value.oneCell']) c1'.out (by omega) (by rw [World.size_alloc, World.size_alloc]; have := HZ3.out; omega) ?_); intro A' c2' w5 hown1 hgrow1 hat1; obtain ⟨z0, zf0⟩ := one_ ((HI2.out.var.alloc _).alloc _ |>.grown hgrow1 (fun e => by have := HI2.out.own.lt gP e.symm; omega)))
            have HP5 := Lib.hid ((HI2.out.var.alloc _).alloc _ |>.grown hgrow1 (fun e => by have := HI2.out.own.lt gP e.symm; omega))
            have HOW := Lib.hid hown1
            have HPUSH := Lib.hid (FnsAt.push (HI2.out.fns.below ((Below.refl _ _).alloc (Nat.le_refl _) (.cells #[.slice C fn fc, .slice S fm fd] 31))) ((HF2.out.keep (fun b hb => Below.heap_alloc _ _ _ hb.1)).mono (fun b hb => ⟨by rw [World.size_alloc]; have := hb.1; omega, hb.2⟩)) hgrow1 hat1)
            have HLOW := Lib.hid (show Below (gP + 1) w2 w5 from (((Below.refl _ _).alloc HZ3.out _).alloc (by rw [World.size_alloc]; have := HZ3.out; omega) _).trans (low_of (m := gP + 1) hgrow1 (fun j hj => (HI2.out.own.lt j hj).1) (by rw [World.size_alloc, World.size_alloc]; have := HZ3.out; omega)))
            clear hown1 hgrow1 hat1
            have hgg := HGG.out
            go_roundw
            case rel =>
              refine ⟨k + 1, q2, fs ++ [f], al ++ [⟨C, fn, fc, S, fm, fd⟩], A', c2', by omega, by omega, by go_num, by go_num, Lib.hid ⟨HRC.out, ?_, ?_, ?_, ?_, ?_, ?_⟩⟩
              · have hl : Below gR w2 (w5.setCell ⟨gP, 0, none⟩ (.slice A' (k + 1) c2')) := (HLOW.out.mono (by omega)).setCell (p := ⟨gP, 0, none⟩) (show gR ≤ gP by omega) _
                exact HI2.out.bys.low hl (by omega)
              · exact (HI2.out.res.below HLOW.out (by omega)).far (p := ⟨gP, 0, none⟩) (show gR ≠ gP by omega) _
              · simpa using HP5.out.set_ 0 (.slice A' (k + 1) c2')
              · rw [List.flatMap_append]
                simpa using HOW.out.setCell ⟨gP, 0, none⟩ (.slice A' (k + 1) c2') (HOW.out.ne_lt (show gP < gP + 1 by omega))
              · exact HPUSH.out.store 0 _
              · exact (HI2.out.below.trans (HLOW.out.mono (by omega))).setCell (p := ⟨gP, 0, none⟩) (show w.heap.size ≤ gP by omega) _
            case measure => simp [intOf]; omega
        · obtain rfl : k = x := by omega
          by_cases hqn2 : q < n
          · have HE := Lib.hid (show rdP l = .bad q by rw [HE0.out, HI.out.1]; simp only; rw [if_pos (by rw [HI.out.2.bys.len]; exact hqn2)])
            go_wp2_with fail
            refine bodyPost_ret (v := .tuple #[.agg #[.slice none 0 0], .int .i64 q, .int .i64 4]) (by simp [results, Tryd.results17, go_sem, r0]) rfl ?_
            unfold ParseIs
            rw [HE.out]
            have hgg := HGG.out
            exact ⟨rfl, HI.out.2.below.setCell (p := ⟨gR, 0, none⟩) (show _ ≤ gR by omega) _⟩
          · have HE := Lib.hid (show rdP l = .ok fs 0 by rw [HE0.out, HI.out.1]; simp only; rw [if_neg (by rw [HI.out.2.bys.len]; exact hqn2)])
            have hqn' : q = n := by omega
            go_wp2_with fail
            refine bodyPost_ret (v := .tuple #[.agg #[.slice X k cx], .int .i64 0, .int .i64 0]) (by simp [results, Tryd.results17, go_sem, r0]) rfl ?_
            unfold ParseIs
            rw [HE.out]
            have hgg := HGG.out
            have hlen : k = fs.length := (rdFs_len l 1 k fs q HI.out.1).symm
            have hnew : FnsNew wr (gP + 1) X fs := ⟨al, HI.out.2.fns.mono (fun b hb => ⟨by have := hb.2.1; omega, hb.1⟩), HI.out.2.own.rowS⟩
            refine ⟨⟨X, cx, by rw [hlen], (hnew.far (p := ⟨gR, 0, none⟩) (show gR < gP + 1 by omega) _).base (by omega)⟩, HI.out.2.below.setCell (p := ⟨gR, 0, none⟩) (show _ ≤ gR by omega) _⟩
end Go.Proofs.YthcbceaeobnmgaaDoor
namespace Go.Proofs.YthcbceaeobnmgaaDoor
open Go.RowKit
theorem FnsOk.nil (w : World) : FnsOk w w.heap.size none [] := ⟨[], rfl, fun i h => by simp at h, .inl rfl⟩
/-- What Parse hands back, in one form: a program in memory, a place and a fault, told by the bytes alone. -/
theorem ParseIs.all {w w' : World} {l : List Nat} {e : Ending} (h : ParseIs w l e w') : (∃ (fs : List Fn) (q f : Int) (X : Option Addr) (c' : Nat), (∀ (w2 w3 : World) (e2 : Ending), ParseIs w2 l e2 w3 → ∃ (X2 : Option Addr) (c2 : Nat), e2 = .returned (.tuple #[.agg #[.slice X2 fs.length c2], .int .i64 q, .int .i64 f]) ∧ FnsOk w3 w3.heap.size X2 fs) ∧ fs.length ≤ maxLen ∧
    e = .returned (.tuple #[.agg #[.slice X fs.length c'], .int .i64 q, .int .i64 f]) ∧ FnsOk w' w'.heap.size X fs) ∧ Below w.heap.size w w' := by
  refine ⟨?_, h.2⟩
  unfold ParseIs at h
  cases hr : rdP l with
  | ok fs q =>
    rw [hr] at h
    obtain ⟨⟨X, c', rfl, hn⟩, _⟩ := h
    have hlen : fs.length ≤ maxLen := by
      unfold rdP at hr
      split at hr
      · cases hr
      split at hr
      · cases hr
      cases h2 : rdFs l 1 (l.getD 0 0) with
      | bad q => rw [h2] at hr; cases hr
      | ok gs q2 =>
        rw [h2] at hr
        simp only at hr
        split at hr
        · cases hr
        · injection hr with h3 h4
          subst h3
          rw [rdFs_len l 1 _ _ _ h2]
          unfold maxLen
          omega
    refine ⟨fs, 0, 0, X, c', ?_, hlen, rfl, hn.ok⟩
    intro w2 w3 e2 h2
    unfold ParseIs at h2
    rw [hr] at h2
    obtain ⟨⟨X2, c2, rfl, hn2⟩, _⟩ := h2
    exact ⟨X2, c2, rfl, hn2.ok⟩
  | bad q =>
    rw [hr] at h
    obtain ⟨rfl, _⟩ := h
    refine ⟨[], q, 4, none, 0, ?_, by simp [maxLen], rfl, FnsOk.nil _⟩
    intro w2 w3 e2 h2
    unfold ParseIs at h2
    rw [hr] at h2
    obtain ⟨rfl, _⟩ := h2
    exact ⟨none, 0, rfl, FnsOk.nil _⟩
set_option maxHeartbeats 2000000 in
set_option maxRecDepth 100000 in
theorem parses07 (A : Option Addr) (n c : Nat) (l : List Nat) (w : World) (hT : Tab w) (hl : l.length = n) (hcap : n ≤ c) (hm : c ≤ maxLen) (hx : ∀ x ∈ l, x < 256) (hr : Row w w.heap.size A (byteVals l)) :
    Calls Tryd.prog 5 #[.slice A n c] w fun e w' => e = .returned (.bool true) ∧ Below w.heap.size w w' := by
  have HT := Lib.hid hT
  have HL := Lib.hid hl
  have HC := Lib.hid (And.intro hcap hm)
  have HX := Lib.hid hx
  have HR := Lib.hid hr
  clear hT hl hcap hm hx hr
  by_cases h3 : 3000 < n
  · go_enter Tryd.func5, Tryd.ntmps5
    go_wp2_with fail
    refine (alive07 w HT.out).mono ?_
    rintro e w9 ⟨rfl, hb⟩
    have HB9 := Lib.hid hb
    clear hb
    go_wp2_with fail
    go_ret
    exact ⟨rfl, HB9.out⟩
  · go_enter Tryd.func5, Tryd.ntmps5
    go_wp2_with fail
    refine (codeParse_any A n c l w HT.out HL.out HC.out.1 HC.out.2 HX.out (by omega) HR.out).mono ?_
    intro e w1 h1
    obtain ⟨⟨fs, q, f, X, cx, hall, hlen, rfl, hfs⟩, hb1⟩ := h1.all
    have HA := Lib.hid hall
    have HF := Lib.hid hfs
    have HN := Lib.hid hlen
    have HB1 := Lib.hid hb1
    clear h1 hall hfs hb1 hlen
    go_wp2_with fail
    have hw2 : ∃ w2 : World, Hid (w2 = w1.alloc (.cells #[.slice X fs.length cx] 24)) := ⟨_, rfl⟩
    obtain ⟨w2, HW2⟩ := hw2
    have hg2 : ∃ g2 : Nat, Hid (g2 = w1.heap.size) := ⟨_, rfl⟩
    obtain ⟨g2, HG2⟩ := hg2
    rw [← HW2.out, ← HG2.out]
    have HP2 := Lib.hid (show Blk w2 g2 24 #[.slice X fs.length cx] by rw [HW2.out, HG2.out]; exact Blk.new _ _ _)
    have HB2 := Lib.hid (show Below w.heap.size w w2 by rw [HW2.out]; exact HB1.out.alloc HB1.out.size _)
    have HF2 := Lib.hid (show FnsOk w2 w2.heap.size X fs by rw [HW2.out]; exact HF.out.alloc _)
    refine (rparse7_any (w := w2) ⟨HR.out.below HB2.out |>.more HB2.out.size, HL.out, HC.out.1, HC.out.2, HX.out, by omega⟩).mono ?_
    intro e w3 h3'
    have hb3 := h3'.2
    obtain ⟨X2, c2, rfl, hf3⟩ := HA.out _ _ _ h3'
    have HP3 := Lib.hid ((HP2.out.below hb3 HP2.out.lt).alloc (.cells #[.slice X2 fs.length c2] 24))
    have HF3 := Lib.hid (((HF2.out.step hb3).alloc (.cells #[.slice X2 fs.length c2] 24)))
    have HG3 := Lib.hid (hf3.alloc (.cells #[.slice X2 fs.length c2] 24))
    have HB3 := Lib.hid (show Below w.heap.size w (w3.alloc (.cells #[.slice X2 fs.length c2] 24)) from (HB2.out.trans (hb3.mono HB2.out.size)).alloc (by have := HB2.out.size; have := hb3.size; omega) _)
    clear h3' hb3 hf3
    have k0 := HP3.out.cell 0
    simp only [List.getElem?_toArray, List.getElem?_cons_zero] at k0
    have hml : ∃ m : Nat, Hid (m = fs.length) := ⟨_, rfl⟩
    obtain ⟨m, HM⟩ := hml
    rw [← HM.out] at k0 ⊢
    go_wp2_with fail
    rw [HM.out]
    refine (same7_true X X2 cx c2 fs _ HN.out HF3.out HG3.out).mono ?_
    rintro e w4 ⟨rfl, hb4⟩
    have HB4 := Lib.hid (HB3.out.trans (hb4.mono HB3.out.size))
    clear hb4 k0
    go_wp2_with fail
    refine (alive07 w4 (HT.out.step HB4.out)).mono ?_
    rintro e w5 ⟨rfl, hb5⟩
    have HB5 := Lib.hid (HB4.out.trans (hb5.mono HB4.out.size))
    clear hb5
    go_wp2_with fail
    go_ret
    exact ⟨rfl, HB5.out⟩
end Go.Proofs.YthcbceaeobnmgaaDoor

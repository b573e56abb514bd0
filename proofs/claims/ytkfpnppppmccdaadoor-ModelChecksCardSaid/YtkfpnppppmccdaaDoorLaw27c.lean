/-
  Chapter 27: the walk of ModelChecks. Conditions: the table is laid, the program and the events lie in memory.
-/
import Derived.Test.YtkfpnppppmccdaaDoorRck27
import Derived.Test.YtkfpnppppmccdaaDoorOpn27
namespace Go.Proofs.YtkfpnppppmccdaaDoor
open Go.RowKit
set_option maxRecDepth 10000 in
set_option maxHeartbeats 4000000 in
theorem checks27 {w : World} {F EA : Option Addr} {fc ec : Nat} {fs : List Fn} (hT : Tab w) (hf : FnsOk w w.heap.size F fs) (hfl : fs.length ≤ maxLen) (p g q : Int) (evs : List Ev) (n : Nat) (hn : evs.length = n) (hn2 : n ≤ maxLen) (hev : Row w w.heap.size EA (evs.flatMap evVals)) :
    Calls Tryd.prog 3 #[.agg #[.slice F fs.length fc], .agg #[.int .i64 p, .int .i64 g, .int .i64 q], .slice EA n ec] w fun r w' => r = .returned (.bool true) ∧ Below w.heap.size w w' := by
  obtain ⟨W, HW⟩ : ∃ W, Hid (W = (w.alloc (.cells #[.slice F fs.length fc] 24)).alloc (.cells #[.int .i64 p, .int .i64 g, .int .i64 q] 26)) := ⟨_, Lib.hid rfl⟩
  obtain ⟨gp, HGP⟩ : ∃ q, Hid (q = w.heap.size) := ⟨_, Lib.hid rfl⟩
  obtain ⟨gc, HGC⟩ : ∃ q, Hid (q = gp + 1) := ⟨_, Lib.hid rfl⟩
  have HBW := Lib.hid (show Below w.heap.size w W by rw [HW.out]; exact below2 w _ _)
  have HP := Lib.hid (show Blk W gp 24 #[.slice F fs.length fc] by rw [HW.out, HGP.out]; exact (Blk.new w _ _).alloc _)
  have HC := Lib.hid (show Blk W gc 26 #[.int .i64 p, .int .i64 g, .int .i64 q] by rw [HW.out, HGC.out, HGP.out]; exact heap_alloc2_new w _ _)
  have HT := Lib.hid hT
  have PC := Lib.hid (show ∀ V, Below W.heap.size W V → V.cell? ⟨gp, 0, none⟩ = some (.slice F fs.length fc) ∧ V.cell? ⟨gc, 0, none⟩ = some (.int .i64 p) ∧ V.cell? ⟨gc, 1, none⟩ = some (.int .i64 g) ∧ V.cell? ⟨gc, 2, none⟩ = some (.int .i64 q) from fun V h => ⟨((HP.out.below h HP.out.lt).cell 0).trans rfl, ((HC.out.below h HC.out.lt).cell 0).trans rfl, ((HC.out.below h HC.out.lt).cell 1).trans rfl, ((HC.out.below h HC.out.lt).cell 2).trans rfl⟩)
  have HLT := Lib.hid (light_any F fc fs W hfl ((hf.below HBW.out).more HBW.out.size))
  have HCP := Lib.hid (fun (V : World) (h : Below w.heap.size w V) => check27_any (fc := fc) (ec := ec) (hT.step h) (hf.step h) hfl p g q evs n hn hn2 ((hev.below h).more h.size))
  have HCR := Lib.hid (fun (V : World) (h : Below w.heap.size w V) => rcheck27_any (fc := fc) (ec := ec) (hf.step h) hfl p g q evs n hn hn2 ((hev.below h).more h.size))
  obtain ⟨⟨r1, r2⟩, HR⟩ : ∃ x, Hid (x = chkP fs p g q evs) := ⟨_, Lib.hid rfl⟩
  rw [← HR.out] at HCP HCR
  simp only at HCP HCR
  have hw := HW.out
  have hgp := HGP.out
  have hgc := HGC.out
  unfold maxLen at hn2
  have hn3 : n < 2 ^ 63 := by omega
  clear hT hf hfl hn hev
  obtain ⟨lt, HLE⟩ : ∃ x, Hid (x = lightP fs) := ⟨_, Lib.hid rfl⟩
  rw [← HLE.out] at HLT
  by_cases hgo : lt = true ∧ n ≤ 200
  · obtain ⟨rfl, hn200⟩ := hgo
    have e200 : decide (200 < n) = false := decide_eq_false (by omega)
    have e201 : decide ((200 : Int) < (n : Int)) = false := decide_eq_false (by omega)
    go_enter Tryd.func3, Tryd.ntmps3
    go_wp2_with fail
    rw [← hw, ← hgp]
    simp only [← hgc]
    clear hw hgp hgc
    refine HLT.out.mono ?_
    rintro e W1 ⟨rfl, hb1⟩
    have HB1 := Lib.hid (show SB27 W W1 from hb1)
    obtain ⟨p0, c0, c1, c2⟩ := PC.out W1 hb1
    clear hb1
    go_wp2_with fail
    refine (HCP.out W1 (HBW.out.trans (Below.mono HB1.out HBW.out.size))).mono ?_
    rintro e W2 ⟨rfl, hb2⟩
    have HB2 := Lib.hid (show SB27 W W2 from Below.trans HB1.out (hb2.mono (Below.size HB1.out)))
    clear hb2 p0 c0 c1 c2
    obtain ⟨p0, c0, c1, c2⟩ := PC.out W2 HB2.out
    go_wp2_with fail
    refine (HCR.out W2 (HBW.out.trans (Below.mono HB2.out HBW.out.size))).mono ?_
    rintro e W3 ⟨rfl, hb3⟩
    have HB3 := Lib.hid (show SB27 W W3 from Below.trans HB2.out (hb3.mono (Below.size HB2.out)))
    clear hb3 p0 c0 c1 c2
    go_wp2_with (first | (go_at_call 8; refine (alive27 W3 ((HT.out.step HBW.out).step HB3.out)).mono ?_; rintro e W5 ⟨rfl, hb5⟩; have HB5 := Lib.hid (show SB27 W W5 from Below.trans HB3.out (hb5.mono (Below.size HB3.out))); clear hb5))
    go_ret
    exact ⟨rfl, HBW.out.trans (Below.mono HB5.out HBW.out.size)⟩
  · cases lt with
    | false =>
      clear hgo
      go_enter Tryd.func3, Tryd.ntmps3
      go_wp2_with fail
      rw [← hw]
      clear hw hgp hgc
      refine HLT.out.mono ?_
      rintro e W1 ⟨rfl, hb1⟩
      have HB1 := Lib.hid (show SB27 W W1 from hb1)
      clear hb1
      go_wp2_with (first | (go_at_call 8; refine (alive27 W1 ((HT.out.step HBW.out).step HB1.out)).mono ?_; rintro e W5 ⟨rfl, hb5⟩; have HB5 := Lib.hid (show SB27 W W5 from Below.trans HB1.out (hb5.mono (Below.size HB1.out))); clear hb5))
      go_ret
      exact ⟨rfl, HBW.out.trans (Below.mono HB5.out HBW.out.size)⟩
    | true =>
      have h200 : 200 < n := by
        rcases Nat.lt_or_ge 200 n with h | h
        · exact h
        · exact absurd ⟨rfl, h⟩ hgo
      have e200 : decide (200 < n) = true := decide_eq_true h200
      have e201 : decide ((200 : Int) < (n : Int)) = true := decide_eq_true (by omega)
      clear hgo h200
      go_enter Tryd.func3, Tryd.ntmps3
      go_wp2_with fail
      rw [← hw]
      clear hw hgp hgc
      refine HLT.out.mono ?_
      rintro e W1 ⟨rfl, hb1⟩
      have HB1 := Lib.hid (show SB27 W W1 from hb1)
      clear hb1
      go_wp2_with (first | (go_at_call 8; refine (alive27 W1 ((HT.out.step HBW.out).step HB1.out)).mono ?_; rintro e W5 ⟨rfl, hb5⟩; have HB5 := Lib.hid (show SB27 W W5 from Below.trans HB1.out (hb5.mono (Below.size HB1.out))); clear hb5))
      go_ret
      exact ⟨rfl, HBW.out.trans (Below.mono HB5.out HBW.out.size)⟩
end Go.Proofs.YtkfpnppppmccdaaDoor

/-
  Contracts of gstat.Name and of its reference.
-/
import Derived.Test.YthbpaggeajjepaaRef18
namespace Go.Proofs.Ythbpaggeajjepaa
open Go.RowKit
/-- The names, as bytes. -/
def bareName (s : Int) : List UInt8 := if s = 0 then [105, 100, 108, 101] else if s = 1 then [114, 117, 110, 110, 97, 98, 108, 101] else if s = 2 then [114, 117, 110, 110, 105, 110, 103] else if s = 3 then [115, 121, 115, 99, 97, 108, 108] else if s = 4 then [119, 97, 105, 116, 105, 110, 103] else if s = 5 then [112, 114, 101, 101, 109, 112, 116, 101, 100] else [100, 101, 97, 100]
def nameS (n : Int) : ByteArray := ⟨(if isB n then (if n < 8 then bareName n else bareName (n - 8) ++ [43]) else []).toArray⟩
theorem name_no (n : Int) (h : isB n = false) : nameS n = ⟨#[]⟩ := by simp [nameS, h]
theorem gname_in (n : Int) (b : ByteArray) (w : World) (hn : I64 n) (hb : isB n = true) (hs : b.size ≤ 20)
    (hx : ∀ W : World, (Instr.index 68 (.agg #[.string ⟨#[105, 100, 108, 101]⟩, .string ⟨#[114, 117, 110, 110, 97, 98, 108, 101]⟩, .string ⟨#[114, 117, 110, 110, 105, 110, 103]⟩, .string ⟨#[115, 121, 115, 99, 97, 108, 108]⟩, .string ⟨#[119, 97, 105, 116, 105, 110, 103]⟩, .string ⟨#[112, 114, 101, 101, 109, 112, 116, 101, 100]⟩, .string ⟨#[100, 101, 97, 100]⟩]) (.int .i64 (baseI n))).run Try.prog W = .ok (.string b) W) :
    Calls Try.prog 32 #[.int .i64 n] w fun e w' => e = .returned (.string (if n < 8 then b else b ++ ⟨#[43]⟩)) ∧ w = w' := by
  by_cases h8 : n < 8
  · have e2 : scanB n = false := by simp [scanB, h8]
    rw [if_pos h8]
    go_enter Try.func32, Try.ntmps32
    go_wp2_with (first | (go_at_call 27; refine (is_any _ _ hn).mono ?_; rintro e w' ⟨rfl, rfl⟩) | (go_at_call 29; refine (base_any _ _ hn).mono ?_; rintro e w' ⟨rfl, rfl⟩) | (go_at_call 31; refine (scanned_any _ _ hn).mono ?_; rintro e w' ⟨rfl, rfl⟩))
    go_ret
    exact ⟨rfl, rfl⟩
  · have e2 : scanB n = true := by simp [scanB, hb]; omega
    rw [if_neg h8]
    go_enter Try.func32, Try.ntmps32
    go_wp2_with (first | (go_at_call 27; refine (is_any _ _ hn).mono ?_; rintro e w' ⟨rfl, rfl⟩) | (go_at_call 29; refine (base_any _ _ hn).mono ?_; rintro e w' ⟨rfl, rfl⟩) | (go_at_call 31; refine (scanned_any _ _ hn).mono ?_; rintro e w' ⟨rfl, rfl⟩))
    go_ret
    exact ⟨rfl, rfl⟩
theorem gname_any (n : Int) (w : World) (hn : I64 n) : Calls Try.prog 32 #[.int .i64 n] w fun e w' => e = .returned (.string (nameS n)) ∧ w = w' := by
  by_cases hb : isB n = true
  · rcases isB_cases n hb with rfl | rfl | rfl | rfl | rfl | rfl | rfl | rfl | rfl | rfl | rfl
    · exact (gname_in 0 ⟨#[105, 100, 108, 101]⟩ w hn hb (by decide) (fun _ => by kernel_rfl)).mono fun e w' ⟨he, hw⟩ => ⟨he.trans (by kernel_rfl), hw⟩
    · exact (gname_in 1 ⟨#[114, 117, 110, 110, 97, 98, 108, 101]⟩ w hn hb (by decide) (fun _ => by kernel_rfl)).mono fun e w' ⟨he, hw⟩ => ⟨he.trans (by kernel_rfl), hw⟩
    · exact (gname_in 2 ⟨#[114, 117, 110, 110, 105, 110, 103]⟩ w hn hb (by decide) (fun _ => by kernel_rfl)).mono fun e w' ⟨he, hw⟩ => ⟨he.trans (by kernel_rfl), hw⟩
    · exact (gname_in 3 ⟨#[115, 121, 115, 99, 97, 108, 108]⟩ w hn hb (by decide) (fun _ => by kernel_rfl)).mono fun e w' ⟨he, hw⟩ => ⟨he.trans (by kernel_rfl), hw⟩
    · exact (gname_in 4 ⟨#[119, 97, 105, 116, 105, 110, 103]⟩ w hn hb (by decide) (fun _ => by kernel_rfl)).mono fun e w' ⟨he, hw⟩ => ⟨he.trans (by kernel_rfl), hw⟩
    · exact (gname_in 5 ⟨#[112, 114, 101, 101, 109, 112, 116, 101, 100]⟩ w hn hb (by decide) (fun _ => by kernel_rfl)).mono fun e w' ⟨he, hw⟩ => ⟨he.trans (by kernel_rfl), hw⟩
    · exact (gname_in 6 ⟨#[100, 101, 97, 100]⟩ w hn hb (by decide) (fun _ => by kernel_rfl)).mono fun e w' ⟨he, hw⟩ => ⟨he.trans (by kernel_rfl), hw⟩
    · exact (gname_in 9 ⟨#[114, 117, 110, 110, 97, 98, 108, 101]⟩ w hn hb (by decide) (fun _ => by kernel_rfl)).mono fun e w' ⟨he, hw⟩ => ⟨he.trans (by kernel_rfl), hw⟩
    · exact (gname_in 11 ⟨#[115, 121, 115, 99, 97, 108, 108]⟩ w hn hb (by decide) (fun _ => by kernel_rfl)).mono fun e w' ⟨he, hw⟩ => ⟨he.trans (by kernel_rfl), hw⟩
    · exact (gname_in 12 ⟨#[119, 97, 105, 116, 105, 110, 103]⟩ w hn hb (by decide) (fun _ => by kernel_rfl)).mono fun e w' ⟨he, hw⟩ => ⟨he.trans (by kernel_rfl), hw⟩
    · exact (gname_in 13 ⟨#[112, 114, 101, 101, 109, 112, 116, 101, 100]⟩ w hn hb (by decide) (fun _ => by kernel_rfl)).mono fun e w' ⟨he, hw⟩ => ⟨he.trans (by kernel_rfl), hw⟩
  · have hb : isB n = false := by simpa using hb
    rw [name_no n hb]
    go_enter Try.func32, Try.ntmps32
    go_wp2_with (first | (go_at_call 27; refine (is_any _ _ hn).mono ?_; rintro e w' ⟨rfl, rfl⟩))
    go_ret
    exact ⟨rfl, rfl⟩
set_option maxHeartbeats 2000000 in
theorem rname_any (n : Int) (w : World) (hn : I64 n) : Calls Try.prog 33 #[.int .i64 n] w fun e w' => e = .returned (.string (nameS n)) ∧ Below w.heap.size w w' := by
  by_cases hb : isB n = true
  · have HN := Lib.hid hn
    have hc := isB_cases n hb
    clear hn
    rcases hc with rfl | rfl | rfl | rfl | rfl | rfl | rfl | rfl | rfl | rfl | rfl
    all_goals
      go_enter Try.func33, Try.ntmps33
      go_wp2_with (first | (go_at_call 28; refine (ris_any _ _ HN.out).mono ?_; rintro e w' ⟨rfl, rfl⟩))
      go_ret
      exact ⟨by kernel_rfl, (Below.refl _ _).alloc (Nat.le_refl _) _⟩
  · have hb : isB n = false := by simpa using hb
    rw [name_no n hb]
    go_enter Try.func33, Try.ntmps33
    go_wp2_with (first | (go_at_call 28; refine (ris_any _ _ hn).mono ?_; rintro e w' ⟨rfl, rfl⟩))
    go_ret
    exact ⟨rfl, Below.refl _ _⟩
end Go.Proofs.Ythbpaggeajjepaa

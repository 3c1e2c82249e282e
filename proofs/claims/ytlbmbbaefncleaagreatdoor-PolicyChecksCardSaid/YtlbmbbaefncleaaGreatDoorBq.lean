/-
  Chapter 45: the numbers of hosts as texts: calls that leave the world as it is.
-/
import Derived.Test.YtlbmbbaefncleaaGreatDoorKit
import Derived.Test.YtlbmbbaefncleaaGreatDoorBase
set_option linter.unusedVariables false
set_option linter.all false
set_option maxRecDepth 100000
set_option maxHeartbeats 4000000
namespace Go.Proofs.YtlbmbbaefncleaaGreatDoor
open Go.Vm Go.RowKit
def hostB (n : Int) : Bool := decide (0 ≤ n) && decide (n < 16)
def decH (n : Int) : List UInt8 := if n < 10 then [UInt8.ofNat (48 + n.toNat)] else [49, UInt8.ofNat (38 + n.toNat)]
theorem hostB_iff {n : Int} : hostB n = true ↔ (0 ≤ n ∧ n < 16) := by
 unfold hostB
 rw [Bool.and_eq_true, decide_eq_true_eq, decide_eq_true_eq]
theorem host_cases {n : Int} (h : hostB n = true) : ∃ m : Nat, n = m ∧ m < 16 := by
 obtain ⟨h1, h2⟩ := hostB_iff.1 h
 exact ⟨n.toNat, by omega, by omega⟩
theorem q181 (n : Int) (h : hostB n = true) (w : World) : Calls Tryz.prog 181 #[.int .i64 n] w fun e w' => e = .returned (.string ⟨(decH n).toArray⟩) ∧ w' = w := by
 obtain ⟨m, rfl, hm⟩ := host_cases h
 match m, hm with
 | 0, _ | 1, _ | 2, _ | 3, _ | 4, _ | 5, _ | 6, _ | 7, _ | 8, _ | 9, _ | 10, _ | 11, _ | 12, _ | 13, _ | 14, _ | 15, _ =>
  go_enter Tryz.func181, Tryz.ntmps181
  go_wp2
  go_ret
  exact ⟨rfl, rfl⟩
theorem q155 (n : Int) (h : hostB n = true) (w : World) : Calls Tryz.prog 155 #[.int .i64 n, .int .i64 10] w fun e w' => e = .returned (.string ⟨(decH n).toArray⟩) ∧ w' = w := by
 obtain ⟨h1, h2⟩ := hostB_iff.1 h
 have h3 : n < 100 := by omega
 go_enter Tryz.func155, Tryz.ntmps155
 go_wp2_with (go_at_call 181; refine (q181 n h _).mono ?_)
 rintro e w' ⟨rfl, rfl⟩
 go_wp2
 go_ret
 exact ⟨rfl, rfl⟩
theorem q119 (n : Int) (h : hostB n = true) (w : World) : Calls Tryz.prog 119 #[.int .i64 n] w fun e w' => e = .returned (.string ⟨(decH n).toArray⟩) ∧ w' = w := by
 go_enter Tryz.func119, Tryz.ntmps119
 go_wp2_with (go_at_call 155; refine (q155 n h _).mono ?_)
 rintro e w' ⟨rfl, rfl⟩
 go_wp2
 go_ret
 exact ⟨rfl, rfl⟩
theorem q75 (n : Int) (h : hostB n = true) (w : World) : Calls Tryz.prog 75 #[.int .i64 n] w fun e w' => e = .returned (.string ⟨(decH n).toArray⟩) ∧ w' = w := by
 go_enter Tryz.func75, Tryz.ntmps75
 go_wp2_with (go_at_call 119; refine (q119 n h _).mono ?_)
 rintro e w' ⟨rfl, rfl⟩
 go_wp2
 go_ret
 exact ⟨rfl, rfl⟩
theorem q37 (n : Int) (h : hostB n = true) (w : World) : Calls Tryz.prog 37 #[.int .i64 n] w fun e w' => e = .returned (.string ⟨(decH n).toArray⟩) ∧ w' = w := by
 go_enter Tryz.func37, Tryz.ntmps37
 go_wp2_with (go_at_call 75; refine (q75 n h _).mono ?_)
 rintro e w' ⟨rfl, rfl⟩
 go_wp2
 go_ret
 exact ⟨rfl, rfl⟩
end Go.Proofs.YtlbmbbaefncleaaGreatDoor

/-
  Chapter 45: copies of empty lists.
-/
import Derived.Test.YtlbmbbaefncleaaGreatDoorKit
set_option linter.unusedVariables false
set_option linter.all false
set_option maxRecDepth 100000
set_option maxHeartbeats 4000000
namespace Go.Proofs.YtlbmbbaefncleaaGreatDoor
open Go.Vm Go.RowKit
theorem run_eql_slices {t e : Nat} (hd : Tryz.prog.underlying t = some (.slice e)) (a : Option Addr) (n c : Nat) (w : World) : (binOp .eql t (.slice a n c) (.slice none 0 0)).run Tryz.prog w = .ok (.bool a.isNone) w := by
  have h : simpleEq (.slice e) (.slice a n c) (.slice none 0 0) = some a.isNone := by cases a <;> rfl
  have hr : (Op.equal t (.slice a n c) (.slice none 0 0)).run Tryz.prog w = .ok a.isNone w := simpleEq_run hd h 9999
  simp only [binOp, Sem.run_bind, hr, Result.andThen_ok, Sem.run_pure]
theorem c106n (c : Nat) (w : World) : Calls Tryz.prog 106 #[.slice none 0 c] w fun e w' => e = .returned (.slice none 0 0) ∧ w' = w := by
  go_enter Tryz.func106, Tryz.ntmps106
  go_wp2
  rw [run_eql_slices Tryz.underlying54]
  simp only [Result.andThen]
  rw [Oper.upon_value]
  go_wp2
  go_ret
  exact ⟨rfl, rfl⟩
theorem c106s (a : Addr) (c : Nat) (w : World) : Calls Tryz.prog 106 #[.slice (some a) 0 c] w fun e w' => e = .returned (.slice (some ⟨w.heap.size, 0, none⟩) 0 0) ∧ Below w.heap.size w w' ∧ w.heap.size < w'.heap.size := by
  go_enter Tryz.func106, Tryz.ntmps106
  go_wp2
  rw [run_eql_slices Tryz.underlying54]
  simp only [Result.andThen]
  rw [Oper.upon_value]
  go_wp2
  go_ret
  exact ⟨rfl, (Below.refl _ w).alloc (Nat.le_refl _) _, by simp⟩
theorem c107n (c : Nat) (w : World) : Calls Tryz.prog 107 #[.slice none 0 c] w fun e w' => e = .returned (.slice none 0 0) ∧ w' = w := by
  go_enter Tryz.func107, Tryz.ntmps107
  go_wp2
  rw [run_eql_slices Tryz.underlying58]
  simp only [Result.andThen]
  rw [Oper.upon_value]
  go_wp2
  go_ret
  exact ⟨rfl, rfl⟩
theorem c107s (a : Addr) (c : Nat) (w : World) : Calls Tryz.prog 107 #[.slice (some a) 0 c] w fun e w' => e = .returned (.slice (some ⟨w.heap.size, 0, none⟩) 0 0) ∧ Below w.heap.size w w' ∧ w.heap.size < w'.heap.size := by
  go_enter Tryz.func107, Tryz.ntmps107
  go_wp2
  rw [run_eql_slices Tryz.underlying58]
  simp only [Result.andThen]
  rw [Oper.upon_value]
  go_wp2
  go_ret
  exact ⟨rfl, (Below.refl _ w).alloc (Nat.le_refl _) _, by simp⟩
theorem clone0 {k : Nat} (hc : ∀ (vals : Array Value) (w : World), (callFunc k vals).run Tryz.prog w = .ok (.enter k vals) w)
    (hn : ∀ (c : Nat) (w : World), Calls Tryz.prog k #[.slice none 0 c] w fun e w' => e = .returned (.slice none 0 0) ∧ w' = w)
    (hs : ∀ (a : Addr) (c : Nat) (w : World), Calls Tryz.prog k #[.slice (some a) 0 c] w fun e w' => e = .returned (.slice (some ⟨w.heap.size, 0, none⟩) 0 0) ∧ Below w.heap.size w w' ∧ w.heap.size < w'.heap.size) :
    PC Tryz.prog k [.sl false [] 0] (.sl false [] 0) := by
  refine PC.ofCalls hc rfl rfl ?_
  intro own w vals hw h
  have key : ∀ (a : Option Addr) (c : Nat), Calls Tryz.prog k #[.slice a 0 c] w fun e w' => ∃ u, e = .returned u ∧ (∀ own', VR own' w' [] (.sl false [] 0) u) ∧ Below w.heap.size w w' := by
    intro a c
    cases a with
    | none =>
      refine (hn c w).mono ?_
      rintro x w' ⟨rfl, rfl⟩
      exact ⟨_, rfl, fun _ => by simp only [VR]; exact .inl ⟨none, rfl, trivial, fun _ => rfl⟩, Below.refl _ _⟩
    | some a =>
      refine (hs a c w).mono ?_
      rintro x w' ⟨rfl, hb, hlt⟩
      exact ⟨_, rfl, fun _ => by simp only [VR]; exact .inl ⟨_, rfl, trivial, fun e => by cases e⟩, hb⟩
  match vals, h with
  | [v], h =>
    simp only [VRs, VR, and_true] at h
    rcases h with ⟨a', rfl, _⟩ | ⟨_, b, off, cap, c, rfl, _⟩
    · exact key _ _
    · exact key _ _
  | [], h => simp [VRs] at h
  | _ :: _ :: _, h => simp [VRs] at h
theorem pc106z : PC Tryz.prog 106 [.sl false [] 0] (.sl false [] 0) := clone0 Tryz.call106 c106n c106s
theorem pc107z : PC Tryz.prog 107 [.sl false [] 0] (.sl false [] 0) := clone0 Tryz.call107 c107n c107s
end Go.Proofs.YtlbmbbaefncleaaGreatDoor

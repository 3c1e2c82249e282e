/-
  Chapter 45: equal policies are equal.
-/
import Derived.Test.YtlbmbbaefncleaaGreatDoorRu
import Derived.Test.YtlbmbbaefncleaaGreatDoorPdMisc
set_option maxRecDepth 100000
set_option maxHeartbeats 4000000
set_option linter.all false
namespace Go.Proofs.YtlbmbbaefncleaaGreatDoor
open Go.Vm
attribute [local push_cast] encR slR cfg0 gfp_lenR gfd_lenR lfl_lenR Nat.mul_one Pd.slN Px.slN Px.encN
theorem pc33 (l : List Px.Nd) (hl : l.length ≤ 4000000) : PC Tryz.prog 33 [Px.slN l, Px.slN l] (.bool true) := by
 refine PC.walk tok mixed cfg0 Tryz.func33 rfl Tryz.call33 (by simp [Pd.bel_slN, Px.bel_slN, Pd.bel_Ns, Px.bel_Ns, belAll_append]) (by first | rfl | simp [Pd.bel_slN, Px.bel_slN, Pd.bel_Ns, Px.bel_Ns, belAll_append]) ?_; refine vms1 Tryz.ntmps33 ?_
 refine T.lp tok mixed cfg0 (fun (i : Nat) => kp 2 (dd 3 (sv (.int .i64 i) (dd 43 (nl))))) (fun H0 (i : Nat) => H0) (fun (i : Nat) => i ≤ l.length) (fun (i : Nat) => l.length - i) (0) ?_ ?_ ?_
 ·exact Nat.zero_le _
 ·exact Gn.canon (J := []) (by first | rfl | (simp [List.append_nil]; done) | (simp [List.append_nil]; rfl)) (by simp [wk, slR, sum0, Pd.slN, Px.slN, putT, kp, dd, sv, nl]) (by simp [List.length_append]) (by simp [Pd.bel_slN, Px.bel_slN, Pd.bel_Ns, Px.bel_Ns, belAll_append, kp, dd, sv, nl]) (by simp [Pd.bel_slN, Px.bel_slN, Pd.bel_Ns, Px.bel_Ns, belAll_append])
 intro i hi
 by_cases hlt : i < l.length
 ·have hA := get_flat_part Px.lenN l i hlt 1 (by decide)
  have hB := get_flat_drop Px.lenN l i hlt 1 1 (by decide)
  have hlen := len_flat Px.lenN l
  have q1 := len_flat_at Px.lenN l i 2 hlt (by decide)
  by_cases h3 : l[i].op = 3
  ·simp (maxSteps := 2000000) -implicitDefEqProofs +contextual (disch := first | assumption | omega | decide +kernel) only [push_cast, ↓capI, seval, Nat.reduceLeDiff, Nat.reduceEqDiff, reduceCtorEq, ↓reduceIte, hlt, hA, hB, h3, len_flat Px.lenN, get_flat_part Px.lenN, get_flat_drop Px.lenN]
   refine ⟨i + 1, hlt, by (try simp only); omega, ?_⟩; exact Gn.canon (by first | rfl | (simp [List.append_nil]; rfl)) (by simp [wk, slR, sum0, Pd.slN, Px.slN]) (by simp [List.length_append]) (by simp [Pd.bel_slN, Px.bel_slN, Pd.bel_Ns, Px.bel_Ns, belAll_append]) (by simp [Pd.bel_slN, Px.bel_slN, Pd.bel_Ns, Px.bel_Ns, belAll_append])
  ·simp (maxSteps := 2000000) -implicitDefEqProofs +contextual (disch := first | assumption | omega | decide +kernel) only [push_cast, ↓capI, seval, Nat.reduceLeDiff, Nat.reduceEqDiff, reduceCtorEq, ↓reduceIte, hlt, hA, hB, h3, len_flat Px.lenN, get_flat_part Px.lenN, get_flat_drop Px.lenN]
   refine ⟨i + 1, hlt, by (try simp only); omega, ?_⟩; exact Gn.canon (by first | rfl | (simp [List.append_nil]; rfl)) (by simp [wk, slR, sum0, Pd.slN, Px.slN]) (by simp [List.length_append]) (by simp [Pd.bel_slN, Px.bel_slN, Pd.bel_Ns, Px.bel_Ns, belAll_append]) (by simp [Pd.bel_slN, Px.bel_slN, Pd.bel_Ns, Px.bel_Ns, belAll_append])
 ·refine vms1 hlt ?_
  refine endK.ret ?_ (by first | rfl | simp [Pd.bel_slN, Px.bel_slN, Pd.bel_Ns, Px.bel_Ns, belAll_append]); simp [evRes, getT, retV, Tryz.f33]
theorem pc53t (l : List Pd.Nd) (hl : l.length ≤ 4000000) : PC Tryz.prog 53 [Pd.slN l, Pd.slN l] (.bool true) :=
 Pd.pc53 l l hl hl true ⟨fun _ => ⟨rfl, fun j _ _ _ => ⟨rfl, fun _ => rfl⟩⟩, fun _ => rfl⟩
theorem pc15 (l : List Ru) (hl : l.length ≤ 1000000) (hs : ∀ r ∈ l, r.p.length ≤ 4000000 ∧ r.q.length ≤ 4000000) : PC Tryz.prog 15 [slR l, slR l] (.bool true) := by
 refine PC.walk tok mixed cfg0 Tryz.func15 rfl Tryz.call15 (by simp [Pd.bel_slN, Px.bel_slN, Pd.bel_Ns, Px.bel_Ns, belAll_append]) (by first | rfl | simp [Pd.bel_slN, Px.bel_slN, Pd.bel_Ns, Px.bel_Ns, belAll_append]) ?_; refine vms1 Tryz.ntmps15 ?_
 refine T.lp tok mixed cfg0 (fun (i : Nat) => kp 2 (dd 3 (sv (.int .i64 i) (dd 63 (nl))))) (fun H0 (i : Nat) => H0) (fun (i : Nat) => i ≤ l.length) (fun (i : Nat) => l.length - i) (0) ?_ ?_ ?_
 ·exact Nat.zero_le _
 ·exact Gn.canon (J := []) (by first | rfl | (simp [List.append_nil]; done) | (simp [List.append_nil]; rfl)) (by simp [wk, slR, sum0, Pd.slN, Px.slN, putT, kp, dd, sv, nl]) (by simp [List.length_append]) (by simp [Pd.bel_slN, Px.bel_slN, Pd.bel_Ns, Px.bel_Ns, belAll_append, kp, dd, sv, nl]) (by simp [Pd.bel_slN, Px.bel_slN, Pd.bel_Ns, Px.bel_Ns, belAll_append])
 intro i hi
 by_cases hlt : i < l.length
 ·have hm := hs _ (List.getElem_mem hlt)
  refine vms1 hlt ?_
  refine callG.pc1 (pc33 l[i].q hm.2) ?_
  refine vms1 hlt ?_
  refine callG.pc1 (pc53t l[i].p hm.1) ?_
  refine vms1 hlt ?_
  refine ⟨i + 1, hlt, by (try simp only); omega, ?_⟩; exact Gn.canon (by first | rfl | (simp [List.append_nil]; rfl)) (by simp [wk, slR, sum0, Pd.slN, Px.slN]) (by simp [List.length_append]) (by simp [Pd.bel_slN, Px.bel_slN, Pd.bel_Ns, Px.bel_Ns, belAll_append]) (by simp [Pd.bel_slN, Px.bel_slN, Pd.bel_Ns, Px.bel_Ns, belAll_append])
 ·refine vms1 hlt ?_
  refine endK.ret ?_ (by first | rfl | simp [Pd.bel_slN, Px.bel_slN, Pd.bel_Ns, Px.bel_Ns, belAll_append]); simp [evRes, getT, retV, Tryz.f15]
end Go.Proofs.YtlbmbbaefncleaaGreatDoor

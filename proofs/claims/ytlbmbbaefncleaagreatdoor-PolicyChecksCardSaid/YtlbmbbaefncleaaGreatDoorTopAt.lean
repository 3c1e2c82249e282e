/-
  Chapter 40: the host and the link at a port.
-/
import Derived.Test.YtlbmbbaefncleaaGreatDoorTopBase
set_option maxRecDepth 100000
set_option linter.all false
namespace Go.Proofs.YtlbmbbaefncleaaGreatDoor.Top
open Go.Vm
theorem firstAt_cons {α : Type} {f : α → Bool} {l : List α} {j : Nat} {r : Int × Bool} (h : j < l.length) (hr : firstAt f (l.drop j) j = r) :
    (f l[j] = true → r = ((j : Int), true)) ∧ (f l[j] = false → firstAt f (l.drop (j + 1)) (j + 1) = r) := by
  rw [drop_cons h, firstAt] at hr
  cases hf : f l[j] with
  | true => rw [hf] at hr; exact ⟨fun _ => hr.symm, fun h => by simp at h⟩
  | false => rw [hf] at hr; exact ⟨fun h => by simp at h, fun _ => hr⟩
theorem firstAt_end {α : Type} {f : α → Bool} {l : List α} {j : Nat} {r : Int × Bool} (h : ¬ j < l.length) (hr : firstAt f (l.drop j) j = r) : r = (0, false) := by
  rw [List.drop_of_length_le (by omega)] at hr; exact hr.symm
attribute [local push_cast] encT encP encL slI slP slL cfg0 gfp_lenP gfp_lenL gfd_lenL lfl_lenP lfl_lenL eqP
theorem pc177 (t : Tp) (p : Int × Int) (hf : t.fit) : PC Tryz.prog 177 [.agg (encT t), .agg (encP p)] (encIB (hostAt t p)) := by
  have := hf.hosts
  refine PC.walk tok mixed cfg0 Tryz.func177 rfl Tryz.call177 (by simp) (by first | rfl | simp) ?_; refine vms1 Tryz.ntmps177 ?_
  refine T.lp tok mixed cfg0 (fun (j : Nat) => dd 3 (kp 1 (dd 5 (kp 2 (sv (.int .i64 j) (dd 9 (nl))))))) (fun H0 (j : Nat) => H0) (fun (j : Nat) => firstAt (fun h => decide (h = p)) (t.hosts.drop j) j = hostAt t p) (fun (j : Nat) => t.hosts.length - j) (0) ?_ ?_ ?_
  · rfl
  · exact Gn.canon (J := _) (by first | rfl | (simp [List.append_nil]; done) | (simp [List.append_nil]; rfl)) (by simp [wk, slP, slL, slI, putT, kp, dd, sv, nl]) (by simp [List.length_append]) (by simp [kp, dd, sv, nl]) (by simp)
  · intro j hj
    refine vms0 ?_
    refine ⟨fun hlt => ⟨fun he => ?_, fun hne => ?_⟩, fun hge => ?_⟩
    · have := (firstAt_cons hlt hj).1 (by simp [he])
      refine endK.retA ?_; simp [evRes, getT, retV, Tryz.f177,  this, encIB]
    · refine ⟨j + 1, (firstAt_cons hlt hj).2 (by simp [hne]), by (try simp only); omega, ?_⟩; exact Gn.canon (by first | rfl | (simp [List.append_nil]; rfl)) (by simp [wk, slP, slL, slI]) (by simp [List.length_append]) (by simp) (by simp)
    · refine endK.retA ?_; simp [evRes, getT, retV, Tryz.f177,  firstAt_end (by omega) hj, encIB]
theorem pc149 (t : Tp) (p : Int × Int) (hf : t.fit) : PC Tryz.prog 149 [.agg (encT t), .agg (encP p)] (encIB (linkAt t p)) := by
  have := hf.links
  refine PC.walk tok mixed cfg0 Tryz.func149 rfl Tryz.call149 (by simp) (by first | rfl | simp) ?_; refine vms1 Tryz.ntmps149 ?_
  refine T.lp tok mixed cfg0 (fun (j : Nat) => dd 2 (kp 2 (dd 2 (sv (.int .i64 j) (dd 26 (nl)))))) (fun H0 (j : Nat) => H0) (fun (j : Nat) => firstAt (fun l => decide (l.a = p) || decide (l.b = p)) (t.links.drop j) j = linkAt t p) (fun (j : Nat) => t.links.length - j) (0) ?_ ?_ ?_
  · rfl
  · exact Gn.canon (J := _) (by first | rfl | (simp [List.append_nil]; done) | (simp [List.append_nil]; rfl)) (by simp [wk, slP, slL, slI, putT, kp, dd, sv, nl]) (by simp [List.length_append]) (by simp [kp, dd, sv, nl]) (by simp)
  · intro j hj
    refine vms0 ?_
    refine ⟨fun hlt => ?_, fun hge => ?_⟩
    · have hc := firstAt_cons hlt hj
      repeat' (first | intro _ | refine And.intro ?_ ?_)
      all_goals first
        | (have := hc.1 (by simp [*])
           refine endK.retA ?_; simp [evRes, getT, retV, Tryz.f149,  this, encIB]
           done)
        | refine ⟨j + 1, hc.2 (by simp [*]), by (try simp only); omega, ?_⟩; exact Gn.canon (by first | rfl | (simp [List.append_nil]; rfl)) (by simp [wk, slP, slL, slI]) (by simp [List.length_append]) (by simp) (by simp)
    · refine endK.retA ?_; simp [evRes, getT, retV, Tryz.f149,  firstAt_end (by omega) hj, encIB]
theorem pc176 (t : Tp) (p : Int × Int) (hf : t.fit) : PC Tryz.prog 176 [.agg (encT t), .agg (encP p)] (encIB (linkAt t p)) := by
  have := hf.links
  refine PC.walk tok mixed cfg0 Tryz.func176 rfl Tryz.call176 (by simp) (by first | rfl | simp) ?_; refine vms1 Tryz.ntmps176 ?_
  refine T.lp tok mixed cfg0 (fun (j : Nat) => dd 3 (kp 1 (dd 5 (kp 2 (sv (.int .i64 j) (dd 16 (nl))))))) (fun H0 (j : Nat) => H0) (fun (j : Nat) => firstAt (fun l => decide (l.a = p) || decide (l.b = p)) (t.links.drop j) j = linkAt t p) (fun (j : Nat) => t.links.length - j) (0) ?_ ?_ ?_
  · rfl
  · exact Gn.canon (J := _) (by first | rfl | (simp [List.append_nil]; done) | (simp [List.append_nil]; rfl)) (by simp [wk, slP, slL, slI, putT, kp, dd, sv, nl]) (by simp [List.length_append]) (by simp [kp, dd, sv, nl]) (by simp)
  · intro j hj
    refine vms0 ?_
    refine ⟨fun hlt => ?_, fun hge => ?_⟩
    · have hc := firstAt_cons hlt hj
      repeat' (first | intro _ | refine And.intro ?_ ?_)
      all_goals first
        | (have := hc.1 (by simp [*])
           refine endK.retA ?_; simp [evRes, getT, retV, Tryz.f176,  this, encIB]
           done)
        | refine ⟨j + 1, hc.2 (by simp [*]), by (try simp only); omega, ?_⟩; exact Gn.canon (by first | rfl | (simp [List.append_nil]; rfl)) (by simp [wk, slP, slL, slI]) (by simp [List.length_append]) (by simp) (by simp)
    · refine endK.retA ?_; simp [evRes, getT, retV, Tryz.f176,  firstAt_end (by omega) hj, encIB]
end Go.Proofs.YtlbmbbaefncleaaGreatDoor.Top

/-
  Chapter 40: all uses of ports.
-/
import Derived.Test.YtlbmbbaefncleaaGreatDoorTopAt
set_option maxRecDepth 100000
set_option linter.all false
namespace Go.Proofs.YtlbmbbaefncleaaGreatDoor.Top
open Go.Vm
def endsOf (l : List Lk) : List (Int × Int) := l.flatMap fun x => [x.a, x.b]
def ends (t : Tp) : List (Int × Int) := endsOf t.links ++ t.hosts
theorem ones_P {g : Bool} {p : Prop} : ∀ {xs : List (Int × Int)}, ones g (xs.flatMap encP) p = p
 | [] => rfl
 | x :: xs => by simp only [List.flatMap_cons, encP, List.cons_append, List.nil_append, ones, V.one]; exact ones_P
theorem take_P {xs : List (Int × Int)} : (xs.flatMap encP).take (xs.length * 2) = xs.flatMap encP := by
 rw [List.take_of_length_le (by rw [len_flat lenP]; exact Nat.le_refl _)]
theorem endsOf_length (l : List Lk) : (endsOf l).length = 2 * l.length := by
 induction l with
 | nil => rfl
 | cons x l ih => simp only [endsOf, List.flatMap_cons, List.length_append, List.length_cons, List.length_nil] at ih ⊢; omega
theorem endsOf_take {l : List Lk} {j : Nat} (h : j < l.length) : endsOf (l.take (j + 1)) = endsOf (l.take j) ++ [l[j].a, l[j].b] := by
 unfold endsOf
 rw [List.take_add_one, List.getElem?_eq_getElem h, List.flatMap_append]
 rfl
attribute [local push_cast] encT encP encL slI slP slL cfg0 gfp_lenP gfp_lenL gfd_lenL lfl_lenP lfl_lenL eqP endsOf_length ones_P take_P
theorem pc89 (t : Tp) (hf : t.fit) : PC Tryz.prog 89 [.agg (encT t)] (slP (ends t)) := by
 have hfl := hf.links
 have hfh := hf.hosts
 refine PC.walk tok mixed cfg0 Tryz.func89 rfl Tryz.call89 (by simp) (by first | rfl | simp) ?_; refine vms1 Tryz.ntmps89 ?_
 refine T.lp tok mixed cfg0 (fun ((j, ver) : Nat × Nat) => dd 1 (kp 1 (dd 1 (sv (.buf 1 ver 0 (2 * j) 2) (dd 3 (kp 2 (sv (.int .i64 j) (dd 15 (nl))))))))) (fun H0 ((j, ver) : Nat × Nat) => [.cells 0 (encT t), .cells ver ((endsOf (t.links.take j)).flatMap encP)]) (fun ((j, ver) : Nat × Nat) => j ≤ t.links.length) (fun ((j, ver) : Nat × Nat) => t.links.length - j) ((0, 0)) ?_ ?_ ?_
 ·exact Nat.zero_le _
 ·refine (Gn.ownNil (t := 3) (sz := 2) rfl).trans ?_
  exact Gn.canon (J := []) (by first | rfl | (simp [List.append_nil]; done) | (simp [List.append_nil]; rfl)) (by simp [wk, putT, kp, dd, sv, nl]) (by simp [List.length_append]) (by simp [kp, dd, sv, nl]) (by simp)
 ·rintro ⟨j, ver⟩ hj
  simp only at hj
  refine vms0 ?_
  refine ⟨fun hlt => ?_, fun hge => ?_⟩
  ·refine ⟨(j + 1, ver + 1), hlt, by simp only; omega, ?_⟩
   exact Gn.canonA (J := [.cells 0 (encL t.links[j])]) (by simp [endsOf_take hlt, encP, encL, encT, slI, slL, slP]) (by simp [wk, slL, Nat.mul_add])
  ·obtain rfl : j = t.links.length := by omega
   refine endK.gn (Gn.freeze (id := 1) rfl) (endK.ret ?_ (bel_slP (ends t)))
   simp only [List.take_length, evRes, getT, retV, Tryz.f89, fzs, fz, Nat.beq_refl]
   simp only [List.drop_zero, Nat.beq]
   rw [List.take_of_length_le (by rw [List.length_append, len_flat lenP, len_flat lenP, endsOf_length]; omega)]
   simp [ends, endsOf_length, slP]
theorem pc93 (t : Tp) (hf : t.fit) : PC Tryz.prog 93 [.agg (encT t)] (slP (ends t)) := by
 have hfl := hf.links
 have hfh := hf.hosts
 refine PC.walk tok mixed cfg0 Tryz.func93 rfl Tryz.call93 (by simp) (by first | rfl | simp) ?_; refine vms1 Tryz.ntmps93 ?_
 refine T.lp tok mixed cfg0 (fun ((j, ver) : Nat × Nat) => dd 1 (kp 1 (dd 1 (sv (.buf 1 ver 0 (2 * j) 2) (sv (.int .i64 j) (dd 26 (nl))))))) (fun H0 ((j, ver) : Nat × Nat) => [.cells 0 (encT t), .cells ver ((endsOf (t.links.take j)).flatMap encP)]) (fun ((j, ver) : Nat × Nat) => j ≤ t.links.length) (fun ((j, ver) : Nat × Nat) => t.links.length - j) ((0, 0)) ?_ ?_ ?_
 ·exact Nat.zero_le _
 ·refine (Gn.ownNil (t := 3) (sz := 2) rfl).trans ?_
  exact Gn.canon (J := []) (by first | rfl | (simp [List.append_nil]; done) | (simp [List.append_nil]; rfl)) (by simp [wk, putT, kp, dd, sv, nl]) (by simp [List.length_append]) (by simp [kp, dd, sv, nl]) (by simp)
 ·rintro ⟨j, ver⟩ hj
  simp only at hj
  refine vms0 ?_
  refine ⟨fun hlt => ?_, fun hge => ?_⟩
  ·refine ⟨(j + 1, ver + 1), hlt, by simp only; omega, ?_⟩
   exact Gn.canonA (J := []) (by simp [endsOf_take hlt, encP, encL, encT, slI, slL, slP]) (by simp [wk, slL, Nat.mul_add])
  ·obtain rfl : j = t.links.length := by omega
   refine endK.gn (Gn.freeze (id := 1) rfl) (endK.ret ?_ (bel_slP (ends t)))
   simp only [List.take_length, evRes, getT, retV, Tryz.f93, fzs, fz, Nat.beq_refl]
   simp only [List.drop_zero, Nat.beq]
   rw [List.take_of_length_le (by rw [List.length_append, len_flat lenP, len_flat lenP, endsOf_length]; omega)]
   simp [ends, endsOf_length, slP]
end Go.Proofs.YtlbmbbaefncleaaGreatDoor.Top

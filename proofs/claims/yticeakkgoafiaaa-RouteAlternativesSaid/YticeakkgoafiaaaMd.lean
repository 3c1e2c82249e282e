/-
  Joined by a program from the texts Prs Bld Chk Run Cld Ref Tree Bui.
-/
import Derived.Test.YticeakkgoafiaaaMb
import Derived.Test.YticeakkgoafiaaaMc
/- Chapter 42: the program's automaton nodes of a list of path nodes. -/
set_option maxRecDepth 100000
set_option maxHeartbeats 4000000
set_option linter.all false
namespace Go.Proofs.Yticeakkgoafiaaa
open Go.Vm
def nxP : Pr → Nx
 | .leaf x => if x.op = 1 then .eps else if x.op = 2 then .any else .one x.n
 | .un _ p => .star (nxP p)
 | .bin x p q => if x.op = 4 then .cat (nxP p) (nxP q) else .alt (nxP p) (nxP q)
attribute [local push_cast] fmN fm0 take_N toN1 slN_nil encN slN cfg0 gfp_lenN gfd_lenN lfl_lenN encA st_encA os_encA
theorem pc53 (sw : Int) : ∀ (p : Pr) (r : List Nd), okP sw p → (flat p ++ r).length ≤ 4000000 → PC Try.prog 53 [slN (flat p ++ r)] (.tup [encA (nxP p), slN r]) := by
 intro p
 induction p with
 | leaf x =>
  intro r hp hl
  obtain ⟨o, n⟩ := x
  simp only [flat, List.cons_append, List.nil_append, List.length_cons] at hl ⊢
  have h0 : o = 1 ∨ o = 2 ∨ o = 3 := hp.1
  rcases h0 with h | h | h <;> subst h
  ·rw [show nxP (.leaf ⟨1, n⟩) = .eps from rfl]
   refine PC.walk tok mixed cfg0 Try.func53 rfl Try.call53 (by simp [bel_clA]) (by first | rfl | simp [bel_clA]) ?_; refine vms1 Try.ntmps53 ?_
   refine endK.ret ?_ (by first | rfl | simp [bel_clA]); simp [evRes, getT, retV, Try.f53,  encA, tgA, clA]
  ·rw [show nxP (.leaf ⟨2, n⟩) = .any from rfl]
   refine PC.walk tok mixed cfg0 Try.func53 rfl Try.call53 (by simp [bel_clA]) (by first | rfl | simp [bel_clA]) ?_; refine vms1 Try.ntmps53 ?_
   refine endK.ret ?_ (by first | rfl | simp [bel_clA]); simp [evRes, getT, retV, Try.f53,  encA, tgA, clA]
  ·rw [show nxP (.leaf ⟨3, n⟩) = .one n from rfl]
   refine PC.walk tok mixed cfg0 Try.func53 rfl Try.call53 (by simp [bel_clA]) (by first | rfl | simp [bel_clA]) ?_; refine vms1 Try.ntmps53 ?_
   refine endK.ret ?_ (by first | rfl | simp [bel_clA]); simp [evRes, getT, retV, Try.f53,  encA, tgA, clA]
 | un x p ih =>
  intro r hp hl
  obtain ⟨o, n⟩ := x
  have h : o = 6 := hp.1
  subst h
  simp only [flat, List.cons_append, List.length_cons] at hl ⊢
  have i1 := ih r hp.2 (by simp only [List.length_append] at hl ⊢; omega)
  rw [show nxP (.un ⟨6, n⟩ p) = .star (nxP p) from rfl]
  generalize flat p ++ r = l at hl i1 ⊢
  refine PC.walk tok mixed cfg0 Try.func53 rfl Try.call53 (by simp [bel_clA]) (by first | rfl | simp [bel_clA]) ?_; refine vms1 Try.ntmps53 ?_
  refine callO.pc i1 ?_
  refine vms0 ?_
  refine endK.ret ?_ (by first | rfl | simp [bel_clA]); simp [evRes, getT, retV, Try.f53,  encA, tgA, clA, slN]
 | bin x p q i1 i2 =>
  intro r hp hl
  obtain ⟨o, n⟩ := x
  have h : o = 4 ∨ o = 5 := hp.1
  simp only [flat, List.cons_append, List.length_cons, List.append_assoc] at hl ⊢
  have j1 := i1 (flat q ++ r) hp.2.1 (by simp only [List.length_append] at hl ⊢; omega)
  have j2 := i2 r hp.2.2 (by simp only [List.length_append] at hl ⊢; omega)
  generalize flat p ++ (flat q ++ r) = l at hl j1 ⊢
  generalize flat q ++ r = l2 at j1 j2 ⊢
  rcases h with h | h <;> subst h
  ·rw [show nxP (.bin ⟨4, n⟩ p q) = .cat (nxP p) (nxP q) from rfl]
   refine PC.walk tok mixed cfg0 Try.func53 rfl Try.call53 (by simp [bel_clA]) (by first | rfl | simp [bel_clA]) ?_; refine vms1 Try.ntmps53 ?_
   refine callO.pc j1 ?_
   refine vms0 ?_
   refine callO.pc j2 ?_
   refine vms0 ?_
   refine endK.ret ?_ (by first | rfl | simp [bel_clA]); simp [evRes, getT, retV, Try.f53,  encA, tgA, clA, slN]
  ·rw [show nxP (.bin ⟨5, n⟩ p q) = .alt (nxP p) (nxP q) from rfl]
   refine PC.walk tok mixed cfg0 Try.func53 rfl Try.call53 (by simp [bel_clA]) (by first | rfl | simp [bel_clA]) ?_; refine vms1 Try.ntmps53 ?_
   refine callO.pc j1 ?_
   refine vms0 ?_
   refine callO.pc j2 ?_
   refine vms0 ?_
   refine endK.ret ?_ (by first | rfl | simp [bel_clA]); simp [evRes, getT, retV, Try.f53,  encA, tgA, clA, slN]
end Go.Proofs.Yticeakkgoafiaaa

/- Chapter 41: the program's tree of a list of nodes. -/
set_option maxRecDepth 100000
set_option maxHeartbeats 4000000
set_option linter.all false
namespace Go.Proofs.Yticeakkgoafiaaa
open Go.Vm
def bldR (sw : Int) (k : Nat) (l : List Nd) : Prop :=
 if (chk sw k l).2 = 0 then ∃ p, okP sw p ∧ l = flat p ++ (chk sw k l).1 ∧ PC Try.prog 64 [slN l, .int .i64 sw] (.tup [encX p, slN (chk sw k l).1, .int .i64 0])
 else ∃ m, PC Try.prog 64 [slN l, .int .i64 sw] (.tup [errX m, .sl true [] 0, .int .i64 (chk sw k l).2])
theorem bld_ok {sw : Int} {k : Nat} {l : List Nd} (p : Pr) (hp : okP sw p) (r : List Nd) (hr : chk sw k l = (r, 0)) (hl : l = flat p ++ r) (h : PC Try.prog 64 [slN l, .int .i64 sw] (.tup [encX p, slN r, .int .i64 0])) : bldR sw k l := by
 rw [bldR, hr, if_pos rfl]
 exact ⟨p, hp, hl, h⟩
theorem bld_err {sw : Int} {k : Nat} {l : List Nd} (m : Er) (e : Int) (he : e ≠ 0) (hr : chk sw k l = ([], e)) (h : PC Try.prog 64 [slN l, .int .i64 sw] (.tup [errX m, .sl true [] 0, .int .i64 e])) : bldR sw k l := by
 rw [bldR, hr, if_neg he]
 exact ⟨m, h⟩
attribute [local push_cast] fmN fm0 take_N toN1 slN_nil encN slN cfg0 gfp_lenN gfd_lenN lfl_lenN encX st_errX os_errX
theorem pc64 (sw : Int) : ∀ (k : Nat) (l : List Nd), l.length ≤ k → l.length ≤ 4000000 → bldR sw k l := by
 intro k
 induction k with
 | zero =>
  intro l hl _
  have hl0 : l = [] := List.length_eq_zero_iff.1 (by omega)
  subst hl0
  refine bld_err .no 3 (by decide) rfl ?_
  refine PC.walk tok mixed cfg0 Try.func64 rfl Try.call64 (by simp [bel_clX, bel_errX]) (by first | rfl | simp [bel_clX, bel_errX]) ?_; simp (maxSteps := 2000000) -implicitDefEqProofs +contextual (disch := first | assumption | omega | decide +kernel) only [push_cast, ↓capI, seval, Nat.reduceLeDiff, Nat.reduceEqDiff, reduceCtorEq, ↓reduceIte, Try.ntmps64]
  refine endK.ret ?_ (by first | rfl | simp [bel_clX, bel_errX]); simp [evRes, getT, retV, Try.f64,  errX]
 | succ k ih =>
  intro l hl hm
  cases l with
  | nil =>
   refine bld_err .no 3 (by decide) rfl ?_
   refine PC.walk tok mixed cfg0 Try.func64 rfl Try.call64 (by simp [bel_clX, bel_errX]) (by first | rfl | simp [bel_clX, bel_errX]) ?_; simp (maxSteps := 2000000) -implicitDefEqProofs +contextual (disch := first | assumption | omega | decide +kernel) only [push_cast, ↓capI, seval, Nat.reduceLeDiff, Nat.reduceEqDiff, reduceCtorEq, ↓reduceIte, Try.ntmps64]
   refine endK.ret ?_ (by first | rfl | simp [bel_clX, bel_errX]); simp [evRes, getT, retV, Try.f64,  errX]
  | cons x l =>
   have hm2 : l.length ≤ 4000000 := by simp only [List.length_cons] at hm; omega
   have hk2 : l.length ≤ k := by simp only [List.length_cons] at hl; omega
   have hL : ((l.length : Int) + 1).toNat - 1 = l.length := by omega
   obtain ⟨o, n⟩ := x
   by_cases h1 : o = 1 ∨ o = 2
   ·have hc : chk1 sw ⟨o, n⟩ = 0 := by
     have ha : ¬ arity o < 0 := by rcases h1 with h | h <;> rw [h] <;> decide
     rw [chk1, if_neg ha, if_neg]
     rintro ⟨h3, _⟩
     simp only at h3
     omega
    have ha : arity o = 0 := by rcases h1 with h | h <;> rw [h] <;> rfl
    have hn : ¬ o = 3 := by omega
    refine bld_ok (.leaf ⟨o, n⟩) ⟨by simp only; omega, hc⟩ l (by rw [chk, if_neg (fun g => g hc), ha]; rfl) rfl ?_
    rcases h1 with h1 | h1
    ·subst h1
     refine PC.walk tok mixed cfg0 Try.func64 rfl Try.call64 (by simp [bel_clX, bel_errX]) (by first | rfl | simp [bel_clX, bel_errX]) ?_; simp (maxSteps := 2000000) -implicitDefEqProofs +contextual (disch := first | assumption | omega | decide +kernel) only [push_cast, ↓capI, seval, Nat.reduceLeDiff, Nat.reduceEqDiff, reduceCtorEq, ↓reduceIte, Try.ntmps64]
     refine endK.ret ?_ (by first | rfl | simp [bel_clX, bel_errX]); simp [evRes, getT, retV, Try.f64,  encX, tgX, clX, nN]
    ·subst h1
     refine PC.walk tok mixed cfg0 Try.func64 rfl Try.call64 (by simp [bel_clX, bel_errX]) (by first | rfl | simp [bel_clX, bel_errX]) ?_; simp (maxSteps := 2000000) -implicitDefEqProofs +contextual (disch := first | assumption | omega | decide +kernel) only [push_cast, ↓capI, seval, Nat.reduceLeDiff, Nat.reduceEqDiff, reduceCtorEq, ↓reduceIte, Try.ntmps64]
     refine endK.ret ?_ (by first | rfl | simp [bel_clX, bel_errX]); simp [evRes, getT, retV, Try.f64,  encX, tgX, clX, nN]
   have n1 : ¬ o = 1 := by omega
   have n2 : ¬ o = 2 := by omega
   by_cases h3 : o = 3
   ·subst h3
    have ha : arity 3 = 0 := rfl
    by_cases hb : badN sw ⟨3, n⟩
    ·have hc : chk1 sw ⟨3, n⟩ = 9 := by
      rw [chk1]
      simp only [ha]
      rw [if_neg (by decide), if_pos ⟨trivial, hb⟩]
     refine bld_err .no 9 (by decide) (by rw [chk, hc, if_pos (by decide)]) ?_
     by_cases b1 : n < 0
     ·refine PC.walk tok mixed cfg0 Try.func64 rfl Try.call64 (by simp [bel_clX, bel_errX]) (by first | rfl | simp [bel_clX, bel_errX]) ?_; simp (maxSteps := 2000000) -implicitDefEqProofs +contextual (disch := first | assumption | omega | decide +kernel) only [push_cast, ↓capI, seval, Nat.reduceLeDiff, Nat.reduceEqDiff, reduceCtorEq, ↓reduceIte, Try.ntmps64]
      (try simp (maxSteps := 2000000) -implicitDefEqProofs +contextual (disch := first | assumption | omega | decide +kernel) only [push_cast, ↓capI, seval, Nat.reduceLeDiff, Nat.reduceEqDiff, reduceCtorEq, ↓reduceIte, b1])
      refine endK.ret ?_ (by first | rfl | simp [bel_clX, bel_errX]); simp [evRes, getT, retV, Try.f64,  errX]
     by_cases b2 : sw ≤ n
     ·refine PC.walk tok mixed cfg0 Try.func64 rfl Try.call64 (by simp [bel_clX, bel_errX]) (by first | rfl | simp [bel_clX, bel_errX]) ?_; simp (maxSteps := 2000000) -implicitDefEqProofs +contextual (disch := first | assumption | omega | decide +kernel) only [push_cast, ↓capI, seval, Nat.reduceLeDiff, Nat.reduceEqDiff, reduceCtorEq, ↓reduceIte, Try.ntmps64]
      (try simp (maxSteps := 2000000) -implicitDefEqProofs +contextual (disch := first | assumption | omega | decide +kernel) only [push_cast, ↓capI, seval, Nat.reduceLeDiff, Nat.reduceEqDiff, reduceCtorEq, ↓reduceIte, b1, b2])
      refine endK.ret ?_ (by first | rfl | simp [bel_clX, bel_errX]); simp [evRes, getT, retV, Try.f64,  errX]
     have b3 : 999999999 < n := by rcases hb with h | h | h <;> simp only at h <;> omega
     refine PC.walk tok mixed cfg0 Try.func64 rfl Try.call64 (by simp [bel_clX, bel_errX]) (by first | rfl | simp [bel_clX, bel_errX]) ?_; simp (maxSteps := 2000000) -implicitDefEqProofs +contextual (disch := first | assumption | omega | decide +kernel) only [push_cast, ↓capI, seval, Nat.reduceLeDiff, Nat.reduceEqDiff, reduceCtorEq, ↓reduceIte, Try.ntmps64]
     (try simp (maxSteps := 2000000) -implicitDefEqProofs +contextual (disch := first | assumption | omega | decide +kernel) only [push_cast, ↓capI, seval, Nat.reduceLeDiff, Nat.reduceEqDiff, reduceCtorEq, ↓reduceIte, b1, b2, b3])
     refine endK.ret ?_ (by first | rfl | simp [bel_clX, bel_errX]); simp [evRes, getT, retV, Try.f64,  errX]
    ·have hc : chk1 sw ⟨3, n⟩ = 0 := by
      rw [chk1]
      simp only [ha]
      rw [if_neg (by decide), if_neg (fun h => hb h.2)]
     have b1 : ¬ n < 0 := fun h => hb (.inl h)
     have b2 : ¬ sw ≤ n := fun h => hb (.inr (.inl h))
     have b3 : ¬ 999999999 < n := fun h => hb (.inr (.inr h))
     refine bld_ok (.leaf ⟨3, n⟩) ⟨by simp, hc⟩ l (by rw [chk, if_neg (fun g => g hc)]; rfl) rfl ?_
     refine PC.walk tok mixed cfg0 Try.func64 rfl Try.call64 (by simp [bel_clX, bel_errX]) (by first | rfl | simp [bel_clX, bel_errX]) ?_; simp (maxSteps := 2000000) -implicitDefEqProofs +contextual (disch := first | assumption | omega | decide +kernel) only [push_cast, ↓capI, seval, Nat.reduceLeDiff, Nat.reduceEqDiff, reduceCtorEq, ↓reduceIte, Try.ntmps64]
     (try simp (maxSteps := 2000000) -implicitDefEqProofs +contextual (disch := first | assumption | omega | decide +kernel) only [push_cast, ↓capI, seval, Nat.reduceLeDiff, Nat.reduceEqDiff, reduceCtorEq, ↓reduceIte, b1, b2, b3])
     refine endK.ret ?_ (by first | rfl | simp [bel_clX, bel_errX]); simp [evRes, getT, retV, Try.f64,  encX, tgX, clX, nN]
   by_cases h6 : o = 6
   ·subst h6
    have hc : chk1 sw ⟨6, n⟩ = 0 := chk1_op (.inl rfl)
    have ha : arity 6 = 1 := rfl
    have hr : chk sw (k + 1) (⟨6, n⟩ :: l) = if (chk sw k l).2 ≠ 0 then ([], (chk sw k l).2) else ((chk sw k l).1, 0) := by
     rw [chk, if_neg (fun g => g hc)]
     simp only [ha]
     rfl
    have i1 := ih l hk2 hm2
    rw [bldR] at i1
    by_cases he : (chk sw k l).2 = 0
    ·rw [if_pos he] at i1
     obtain ⟨p, hp, hl, hpc⟩ := i1
     refine bld_ok (.un ⟨6, n⟩ p) ⟨rfl, hp⟩ (chk sw k l).1 (by rw [hr, if_neg (fun g => g he)]) (by rw [flat, List.cons_append, ← hl]) ?_
     refine PC.walk tok mixed cfg0 Try.func64 rfl Try.call64 (by simp [bel_clX, bel_errX]) (by first | rfl | simp [bel_clX, bel_errX]) ?_; simp (maxSteps := 2000000) -implicitDefEqProofs +contextual (disch := first | assumption | omega | decide +kernel) only [push_cast, ↓capI, seval, Nat.reduceLeDiff, Nat.reduceEqDiff, reduceCtorEq, ↓reduceIte, Try.ntmps64]
     refine callO.pc hpc ?_
     simp (maxSteps := 2000000) -implicitDefEqProofs +contextual (disch := first | assumption | omega | decide +kernel) only [push_cast, ↓capI, seval, Nat.reduceLeDiff, Nat.reduceEqDiff, reduceCtorEq, ↓reduceIte]
     refine endK.ret ?_ (by first | rfl | simp [bel_clX, bel_errX]); simp [evRes, getT, retV, Try.f64,  encX, tgX, clX, slN]
    ·rw [if_neg he] at i1
     obtain ⟨m, hpc⟩ := i1
     refine bld_err (.un m) _ he (by rw [hr, if_pos he]) ?_
     cases m
     all_goals
      refine PC.walk tok mixed cfg0 Try.func64 rfl Try.call64 (by simp [bel_clX, bel_errX]) (by first | rfl | simp [bel_clX, bel_errX]) ?_; simp (maxSteps := 2000000) -implicitDefEqProofs +contextual (disch := first | assumption | omega | decide +kernel) only [push_cast, ↓capI, seval, Nat.reduceLeDiff, Nat.reduceEqDiff, reduceCtorEq, ↓reduceIte, Try.ntmps64]
      refine callO.pc hpc ?_
      simp (maxSteps := 2000000) -implicitDefEqProofs +contextual (disch := first | assumption | omega | decide +kernel) only [push_cast, ↓capI, seval, Nat.reduceLeDiff, Nat.reduceEqDiff, reduceCtorEq, ↓reduceIte, errX]
      refine endK.ret ?_ (by first | rfl | simp [bel_clX, bel_errX]); simp [evRes, getT, retV, Try.f64,  errX]
   by_cases h45 : o = 4 ∨ o = 5
   ·have hc : chk1 sw ⟨o, n⟩ = 0 := chk1_op (.inr h45)
    have ha : arity o = 2 := by rcases h45 with h | h <;> rw [h] <;> rfl
    have hr : chk sw (k + 1) (⟨o, n⟩ :: l) = if (chk sw k l).2 ≠ 0 then ([], (chk sw k l).2) else if (chk sw k (chk sw k l).1).2 ≠ 0 then ([], (chk sw k (chk sw k l).1).2) else ((chk sw k (chk sw k l).1).1, 0) := by
     rw [chk, if_neg (fun g => g hc)]
     simp only [ha]
     rfl
    have i1 := ih l hk2 hm2
    have hlen := chk_len sw k l
    have i2 := ih (chk sw k l).1 (by omega) (by omega)
    rw [bldR] at i1 i2
    by_cases he : (chk sw k l).2 = 0
    case neg =>
     rw [if_neg he] at i1
     obtain ⟨m, hpc⟩ := i1
     refine bld_err .no _ he (by rw [hr, if_pos he]) ?_
     rcases h45 with h | h <;> subst h
     all_goals
      refine PC.walk tok mixed cfg0 Try.func64 rfl Try.call64 (by simp [bel_clX, bel_errX]) (by first | rfl | simp [bel_clX, bel_errX]) ?_; simp (maxSteps := 2000000) -implicitDefEqProofs +contextual (disch := first | assumption | omega | decide +kernel) only [push_cast, ↓capI, seval, Nat.reduceLeDiff, Nat.reduceEqDiff, reduceCtorEq, ↓reduceIte, Try.ntmps64]
      refine callO.pc hpc ?_
      (try simp (maxSteps := 2000000) -implicitDefEqProofs +contextual (disch := first | assumption | omega | decide +kernel) only [push_cast, ↓capI, seval, Nat.reduceLeDiff, Nat.reduceEqDiff, reduceCtorEq, ↓reduceIte, he])
      refine endK.ret ?_ (by first | rfl | simp [bel_clX, bel_errX]); simp [evRes, getT, retV, Try.f64,  errX]
    rw [if_pos he] at i1
    rw [if_neg (fun g => g he)] at hr
    obtain ⟨p, hp, hl1, hpc⟩ := i1
    generalize chk sw k l = c at *
    obtain ⟨r, e⟩ := c
    simp only at he hl1 hpc i2 hr hlen
    by_cases he2 : (chk sw k r).2 = 0
    ·rw [if_pos he2] at i2
     rw [if_neg (fun g => g he2)] at hr
     obtain ⟨q, hq, hl2, hpc2⟩ := i2
     refine bld_ok (.bin ⟨o, n⟩ p q) ⟨h45, hp, hq⟩ (chk sw k r).1 hr (by rw [flat, List.cons_append, List.append_assoc, ← hl2, ← hl1]) ?_
     rcases h45 with h | h <;> subst h
     all_goals
      refine PC.walk tok mixed cfg0 Try.func64 rfl Try.call64 (by simp [bel_clX, bel_errX]) (by first | rfl | simp [bel_clX, bel_errX]) ?_; simp (maxSteps := 2000000) -implicitDefEqProofs +contextual (disch := first | assumption | omega | decide +kernel) only [push_cast, ↓capI, seval, Nat.reduceLeDiff, Nat.reduceEqDiff, reduceCtorEq, ↓reduceIte, Try.ntmps64]
      refine callO.pc hpc ?_
      simp (maxSteps := 2000000) -implicitDefEqProofs +contextual (disch := first | assumption | omega | decide +kernel) only [push_cast, ↓capI, seval, Nat.reduceLeDiff, Nat.reduceEqDiff, reduceCtorEq, ↓reduceIte]
      refine callO.pc hpc2 ?_
      simp (maxSteps := 2000000) -implicitDefEqProofs +contextual (disch := first | assumption | omega | decide +kernel) only [push_cast, ↓capI, seval, Nat.reduceLeDiff, Nat.reduceEqDiff, reduceCtorEq, ↓reduceIte]
      refine endK.ret ?_ (by first | rfl | simp [bel_clX, bel_errX]); simp [evRes, getT, retV, Try.f64,  encX, tgX, clX, slN]
    ·rw [if_neg he2] at i2
     rw [if_pos he2] at hr
     obtain ⟨m, hpc2⟩ := i2
     refine bld_err (.bin o p m) _ he2 hr ?_
     rcases h45 with h | h <;> subst h
     all_goals cases m
     all_goals
      refine PC.walk tok mixed cfg0 Try.func64 rfl Try.call64 (by simp [bel_clX, bel_errX]) (by first | rfl | simp [bel_clX, bel_errX]) ?_; simp (maxSteps := 2000000) -implicitDefEqProofs +contextual (disch := first | assumption | omega | decide +kernel) only [push_cast, ↓capI, seval, Nat.reduceLeDiff, Nat.reduceEqDiff, reduceCtorEq, ↓reduceIte, Try.ntmps64]
      refine callO.pc hpc ?_
      simp (maxSteps := 2000000) -implicitDefEqProofs +contextual (disch := first | assumption | omega | decide +kernel) only [push_cast, ↓capI, seval, Nat.reduceLeDiff, Nat.reduceEqDiff, reduceCtorEq, ↓reduceIte]
      refine callO.pc hpc2 ?_
      simp (maxSteps := 2000000) -implicitDefEqProofs +contextual (disch := first | assumption | omega | decide +kernel) only [push_cast, ↓capI, seval, Nat.reduceLeDiff, Nat.reduceEqDiff, reduceCtorEq, ↓reduceIte, errX]
      refine endK.ret ?_ (by first | rfl | simp [bel_clX, bel_errX]); simp [evRes, getT, retV, Try.f64,  errX, encX]
   ·have ha : arity o = -1 := by rw [arity, if_neg (by omega), if_neg h6, if_neg h45]
    have hc : chk1 sw ⟨o, n⟩ = 11 := by
     rw [chk1]
     simp only [ha]
     rfl
    have n4 : ¬ o = 4 := by omega
    have n5 : ¬ o = 5 := by omega
    refine bld_err .no 11 (by decide) (by rw [chk, hc, if_pos (by decide)]) ?_
    refine PC.walk tok mixed cfg0 Try.func64 rfl Try.call64 (by simp [bel_clX, bel_errX]) (by first | rfl | simp [bel_clX, bel_errX]) ?_; simp (maxSteps := 2000000) -implicitDefEqProofs +contextual (disch := first | assumption | omega | decide +kernel) only [push_cast, ↓capI, seval, Nat.reduceLeDiff, Nat.reduceEqDiff, reduceCtorEq, ↓reduceIte, Try.ntmps64]
    (try simp (maxSteps := 2000000) -implicitDefEqProofs +contextual (disch := first | assumption | omega | decide +kernel) only [push_cast, ↓capI, seval, Nat.reduceLeDiff, Nat.reduceEqDiff, reduceCtorEq, ↓reduceIte, n1, n2, h3, n4, n5, h6])
    refine endK.ret ?_ (by first | rfl | simp [bel_clX, bel_errX]); simp [evRes, getT, retV, Try.f64,  errX]
end Go.Proofs.Yticeakkgoafiaaa

/- Chapter 41: the program's check of a list of nodes. -/
set_option maxRecDepth 100000
set_option maxHeartbeats 4000000
set_option linter.all false
namespace Go.Proofs.Yticeakkgoafiaaa
open Go.Vm
def checkP (sw : Int) (l : List Nd) : Int := if 24 < l.length then 12 else if (chk sw l.length l).2 = 0 ∧ (chk sw l.length l).1 ≠ [] then 4 else (chk sw l.length l).2
theorem checkP_big {sw : Int} {l : List Nd} (h : 24 < l.length) : checkP sw l = 12 := by rw [checkP, if_pos h]
theorem checkP_err {sw : Int} {l : List Nd} (h : ¬ 24 < l.length) (he : ¬ (chk sw l.length l).2 = 0) : checkP sw l = (chk sw l.length l).2 := by rw [checkP, if_neg h, if_neg (fun g => he g.1)]
theorem checkP_long {sw : Int} {l : List Nd} (h : ¬ 24 < l.length) (he : (chk sw l.length l).2 = 0) (hn : ¬ (chk sw l.length l).1 = []) : checkP sw l = 4 := by rw [checkP, if_neg h, if_pos ⟨he, hn⟩]
theorem checkP_ok {sw : Int} {l : List Nd} (h : ¬ 24 < l.length) (he : (chk sw l.length l).2 = 0) (hn : (chk sw l.length l).1 = []) : checkP sw l = 0 := by rw [checkP, if_neg h, if_neg (fun g => g.2 hn), he]
def treR (f : Nat) (args : List V) (sw : Int) (l : List Nd) : Prop :=
 (checkP sw l = 0 ∧ ∃ p, okP sw p ∧ l = flat p ∧ l.length ≤ 24 ∧ PC Try.prog f args (.tup [encX p, .int .i64 0])) ∨
 (checkP sw l ≠ 0 ∧ PC Try.prog f args (.tup [.nili, .int .i64 (checkP sw l)]))
attribute [local push_cast] fmN fm0 take_N toN1 slN_nil encN slN cfg0 gfp_lenN gfd_lenN lfl_lenN encX st_errX os_errX
theorem tree36 (sw : Int) (l : List Nd) (hl : l.length ≤ 4000000) : treR 52 [slN l, .int .i64 sw] sw l := by
 by_cases h : 24 < l.length
 ·refine .inr ⟨by rw [checkP_big h]; decide, ?_⟩
  rw [checkP_big h]
  refine PC.walk tok mixed cfg0 Try.func52 rfl Try.call52 (by simp [bel_clX, bel_errX]) (by first | rfl | simp [bel_clX, bel_errX]) ?_; refine vms1 Try.ntmps52 ?_
  refine endK.ret ?_ (by first | rfl | simp [bel_clX, bel_errX]); simp [evRes, getT, retV, Try.f52]
 have hb := pc64 sw l.length l (Nat.le_refl _) hl
 rw [bldR] at hb
 by_cases he : (chk sw l.length l).2 = 0
 ·rw [if_pos he] at hb
  obtain ⟨p, hp, hf, hpc⟩ := hb
  by_cases hn : (chk sw l.length l).1 = []
  ·refine .inl ⟨checkP_ok h he hn, p, hp, by rw [hn, List.append_nil] at hf; exact hf, by omega, ?_⟩
   rw [hn] at hpc
   refine PC.walk tok mixed cfg0 Try.func52 rfl Try.call52 (by simp [bel_clX, bel_errX]) (by first | rfl | simp [bel_clX, bel_errX]) ?_; refine vms1 Try.ntmps52 ?_
   refine callO.pc hpc ?_
   refine vms0 ?_
   refine endK.ret ?_ (by first | rfl | simp [bel_clX, bel_errX]); simp [evRes, getT, retV, Try.f52,  encX]
  ·have hp0 : 0 < (chk sw l.length l).1.length := List.length_pos_iff.2 hn
   have hle := chk_len sw l.length l
   refine .inr ⟨by rw [checkP_long h he hn]; decide, ?_⟩
   rw [checkP_long h he hn]
   refine PC.walk tok mixed cfg0 Try.func52 rfl Try.call52 (by simp [bel_clX, bel_errX]) (by first | rfl | simp [bel_clX, bel_errX]) ?_; refine vms1 Try.ntmps52 ?_
   refine callO.pc hpc ?_
   refine vms1 hp0 ?_
   refine endK.ret ?_ (by first | rfl | simp [bel_clX, bel_errX]); simp [evRes, getT, retV, Try.f52]
 ·rw [if_neg he] at hb
  obtain ⟨m, hpc⟩ := hb
  refine .inr ⟨by rw [checkP_err h he]; exact he, ?_⟩
  rw [checkP_err h he]
  refine PC.walk tok mixed cfg0 Try.func52 rfl Try.call52 (by simp [bel_clX, bel_errX]) (by first | rfl | simp [bel_clX, bel_errX]) ?_; refine vms1 Try.ntmps52 ?_
  refine callO.pc hpc ?_
  refine vms1 he ?_
  refine endK.ret ?_ (by first | rfl | simp [bel_clX, bel_errX]); simp [evRes, getT, retV, Try.f52]
theorem tree44 (l : List Nd) (hl : l.length ≤ 4000000) : treR 44 [slN l] 1000000000 l := by
 rcases tree36 1000000000 l hl with ⟨hc, p, hp, hf, h24, hpc⟩ | ⟨hc, hpc⟩
 ·refine .inl ⟨hc, p, hp, hf, h24, ?_⟩
  refine PC.walk tok mixed cfg0 Try.func44 rfl Try.call44 (by simp [bel_clX, bel_errX]) (by first | rfl | simp [bel_clX, bel_errX]) ?_; refine vms1 Try.ntmps44 ?_
  refine callO.pc hpc ?_
  refine vms0 ?_
  refine endK.ret ?_ (by first | rfl | simp [bel_clX, bel_errX]); simp [evRes, getT, retV, Try.f44,  encX]
 ·refine .inr ⟨hc, ?_⟩
  refine PC.walk tok mixed cfg0 Try.func44 rfl Try.call44 (by simp [bel_clX, bel_errX]) (by first | rfl | simp [bel_clX, bel_errX]) ?_; refine vms1 Try.ntmps44 ?_
  refine callO.pc hpc ?_
  refine vms0 ?_
  refine endK.ret ?_ (by first | rfl | simp [bel_clX, bel_errX]); simp [evRes, getT, retV, Try.f44]
theorem pc39 (sw : Int) (l : List Nd) (hl : l.length ≤ 4000000) : PC Try.prog 39 [slN l, .int .i64 sw] (.int .i64 (checkP sw l)) := by
 rcases tree36 sw l hl with ⟨hc, p, hp, hf, h24, hpc⟩ | ⟨hc, hpc⟩
 ·rw [hc]
  refine PC.walk tok mixed cfg0 Try.func39 rfl Try.call39 (by simp [bel_clX, bel_errX]) (by first | rfl | simp [bel_clX, bel_errX]) ?_; refine vms1 Try.ntmps39 ?_
  refine callO.pc hpc ?_
  refine vms0 ?_
  refine endK.ret ?_ (by first | rfl | simp [bel_clX, bel_errX]); simp [evRes, getT, retV, Try.f39]
 ·refine PC.walk tok mixed cfg0 Try.func39 rfl Try.call39 (by simp [bel_clX, bel_errX]) (by first | rfl | simp [bel_clX, bel_errX]) ?_; refine vms1 Try.ntmps39 ?_
  refine callO.pc hpc ?_
  refine vms0 ?_
  refine endK.ret ?_ (by first | rfl | simp [bel_clX, bel_errX]); simp [evRes, getT, retV, Try.f39]
end Go.Proofs.Yticeakkgoafiaaa

/- Chapter 42: Accepts of both, Minimize and Build of the program. -/
set_option maxRecDepth 100000
set_option maxHeartbeats 4000000
set_option linter.all false
namespace Go.Proofs.Yticeakkgoafiaaa
open Go.Vm
def zTb : V := .agg [.sl true [] 0, .sl true [] 0]
@[simp] theorem bel_zTb {n : Nat} : zTb.bel n = true := rfl
theorem run0 {t : Tb} {q : Int} : runA t q [] = q := rfl
theorem run_step {t : Tb} {l : List Int} {i : Nat} (h : i < l.length) : runA t 0 (l.take (i + 1)) = suc t (runA t 0 (l.take i)) l[i] := by
 rw [List.take_succ_eq_append_getElem h, runA, List.foldl_append]; rfl
def minV (t : Tb) : V := if chkT t = 0 then .tup [.agg (encT (minS t)), .int .i64 0] else .tup [zTb, .int .i64 (chkT t)]
end Go.Proofs.Yticeakkgoafiaaa

/- Chapter 42: an expression has few partial derivatives (plain). -/
set_option maxRecDepth 100000
set_option maxHeartbeats 4000000
set_option linter.all false
namespace Go.Proofs.Yticeakkgoafiaaa
open Go.Vm
def siz : Nx → Nat
 | .star a => siz a + 1
 | .cat a b => siz a + siz b + 1
 | .alt a b => siz a + siz b + 1
 | _ => 1
def lvs : Nx → Nat
 | .eps => 0
 | .any => 1
 | .one _ => 1
 | .star a => lvs a
 | .cat a b => lvs a + lvs b
 | .alt a b => lvs a + lvs b
def pdl : Nx → List Nx
 | .eps => []
 | .any => [.eps]
 | .one _ => [.eps]
 | .star a => (pdl a).map fun d => seqA d (.star a)
 | .cat a b => (pdl a).map (fun d => seqA d b) ++ pdl b
 | .alt a b => pdl a ++ pdl b
theorem lvs_siz : ∀ x, lvs x ≤ siz x
 | .eps => by simp [lvs]
 | .any => Nat.le_refl _
 | .one _ => Nat.le_refl _
 | .star a => by have := lvs_siz a; simp only [lvs, siz]; omega
 | .cat a b => by have := lvs_siz a; have := lvs_siz b; simp only [lvs, siz]; omega
 | .alt a b => by have := lvs_siz a; have := lvs_siz b; simp only [lvs, siz]; omega
theorem pdl_len : ∀ x, (pdl x).length = lvs x
 | .eps => rfl
 | .any => rfl
 | .one _ => rfl
 | .star a => by rw [pdl, List.length_map, pdl_len a]; rfl
 | .cat a b => by rw [pdl, List.length_append, List.length_map, pdl_len a, pdl_len b]; rfl
 | .alt a b => by rw [pdl, List.length_append, pdl_len a, pdl_len b]; rfl
theorem drv_pdl (sw : Int) : ∀ x, ∀ d ∈ drv sw x, d ∈ pdl x
 | .eps, d, h => by simp [drv] at h
 | .any, d, h => h
 | .one n, d, h => by
  rw [drv] at h
  split at h
  ·exact h
  ·simp at h
 | .star a, d, h => by
  rw [drv] at h
  obtain ⟨e, he, rfl⟩ := List.mem_map.1 h
  exact List.mem_map.2 ⟨e, drv_pdl sw a e he, rfl⟩
 | .cat a b, d, h => by
  rw [drv] at h
  rcases List.mem_append.1 h with h | h
  ·obtain ⟨e, he, rfl⟩ := List.mem_map.1 h
   exact List.mem_append.2 (.inl (List.mem_map.2 ⟨e, drv_pdl sw a e he, rfl⟩))
  ·split at h
   ·exact List.mem_append.2 (.inr (drv_pdl sw b d h))
   ·simp at h
 | .alt a b, d, h => by
  rw [drv] at h
  rcases List.mem_append.1 h with h | h
  ·exact List.mem_append.2 (.inl (drv_pdl sw a d h))
  ·exact List.mem_append.2 (.inr (drv_pdl sw b d h))
theorem drv_seq {sw : Int} {d b x : Nx} (h : x ∈ drv sw (seqA d b)) : (∃ e ∈ drv sw d, x = seqA e b) ∨ x ∈ drv sw b := by
 unfold seqA at h
 split at h
 ·exact .inr h
 ·rw [drv] at h
  rcases List.mem_append.1 h with h | h
  ·obtain ⟨e, he, rfl⟩ := List.mem_map.1 h
   exact .inl ⟨e, he, rfl⟩
  ·split at h
   ·exact .inr h
   ·simp at h
theorem pdl_clos (sw : Int) : ∀ x, ∀ y ∈ pdl x, ∀ d ∈ drv sw y, d ∈ pdl x
 | .eps, y, h, _, _ => by simp [pdl] at h
 | .any, y, h, d, hd => by
  simp [pdl] at h
  subst h
  simp [drv] at hd
 | .one _, y, h, d, hd => by
  simp [pdl] at h
  subst h
  simp [drv] at hd
 | .star a, y, h, d, hd => by
  rw [pdl] at h
  obtain ⟨e, he, rfl⟩ := List.mem_map.1 h
  rcases drv_seq hd with ⟨f, hf, rfl⟩ | hd
  ·exact List.mem_map.2 ⟨f, pdl_clos sw a e he f hf, rfl⟩
  ·exact drv_pdl sw (.star a) d hd
 | .cat a b, y, h, d, hd => by
  rw [pdl] at h
  rcases List.mem_append.1 h with h | h
  ·obtain ⟨e, he, rfl⟩ := List.mem_map.1 h
   rcases drv_seq hd with ⟨f, hf, rfl⟩ | hd
   ·exact List.mem_append.2 (.inl (List.mem_map.2 ⟨f, pdl_clos sw a e he f hf, rfl⟩))
   ·exact List.mem_append.2 (.inr (drv_pdl sw b d hd))
  ·exact List.mem_append.2 (.inr (pdl_clos sw b y h d hd))
 | .alt a b, y, h, d, hd => by
  rw [pdl] at h
  rcases List.mem_append.1 h with h | h
  ·exact List.mem_append.2 (.inl (pdl_clos sw a y h d hd))
  ·exact List.mem_append.2 (.inr (pdl_clos sw b y h d hd))
theorem hgt_siz : ∀ x, hgt x ≤ siz x
 | .eps => Nat.zero_le _
 | .any => Nat.zero_le _
 | .one _ => Nat.zero_le _
 | .star a => by have := hgt_siz a; simp only [hgt, siz]; omega
 | .cat a b => by have := hgt_siz a; have := hgt_siz b; simp only [hgt, siz]; omega
 | .alt a b => by have := hgt_siz a; have := hgt_siz b; simp only [hgt, siz]; omega
theorem hgt_seq (d b : Nx) : hgt (seqA d b) ≤ max (hgt d) (hgt b) + 1 := by
 unfold seqA
 split
 ·omega
 ·simp only [hgt]; omega
theorem lvs_seq (d b : Nx) : lvs (seqA d b) ≤ lvs d + lvs b := by
 unfold seqA
 split
 ·omega
 ·simp only [lvs]; omega
theorem pdl_hgt : ∀ x, ∀ y ∈ pdl x, hgt y ≤ 2 * siz x
 | .eps, y, h => by simp [pdl] at h
 | .any, y, h => by simp [pdl] at h; subst h; exact Nat.zero_le _
 | .one _, y, h => by simp [pdl] at h; subst h; exact Nat.zero_le _
 | .star a, y, h => by
  rw [pdl] at h
  obtain ⟨e, he, rfl⟩ := List.mem_map.1 h
  have h1 := pdl_hgt a e he
  have h2 := hgt_seq e (.star a)
  have h3 := hgt_siz a
  simp only [hgt] at h2
  simp only [siz]; omega
 | .cat a b, y, h => by
  rw [pdl] at h
  rcases List.mem_append.1 h with h | h
  ·obtain ⟨e, he, rfl⟩ := List.mem_map.1 h
   have h1 := pdl_hgt a e he
   have h2 := hgt_seq e b
   have h3 := hgt_siz b
   simp only [siz]; omega
  ·have := pdl_hgt b y h
   simp only [siz]; omega
 | .alt a b, y, h => by
  rw [pdl] at h
  rcases List.mem_append.1 h with h | h
  ·have := pdl_hgt a y h
   simp only [siz]; omega
  ·have := pdl_hgt b y h
   simp only [siz]; omega
theorem sq_le {a b s : Nat} (ha : a ≤ b * b) (h : b + 1 ≤ s) {c : Nat} (hc : c + b ≤ s) : a + c ≤ s * s := by
 obtain ⟨d, rfl⟩ : ∃ d, s = b + 1 + d := ⟨s - (b + 1), by omega⟩
 have e : (b + 1 + d) * (b + 1 + d) = b * b + 2 * (b * (1 + d)) + (1 + d) * (1 + d) := by
  have := Nat.mul_comm d b
  simp only [Nat.add_mul, Nat.mul_add, Nat.one_mul, Nat.mul_one]; omega
 have h1 : 1 + d ≤ (1 + d) * (1 + d) := Nat.le_mul_self _
 omega
theorem pdl_lvs : ∀ x, ∀ y ∈ pdl x, lvs y ≤ siz x * siz x
 | .eps, y, h => by simp [pdl] at h
 | .any, y, h => by simp [pdl] at h; subst h; exact Nat.zero_le _
 | .one _, y, h => by simp [pdl] at h; subst h; exact Nat.zero_le _
 | .star a, y, h => by
  rw [pdl] at h
  obtain ⟨e, he, rfl⟩ := List.mem_map.1 h
  have h1 := pdl_lvs a e he
  have h2 := lvs_seq e (.star a)
  have h3 := lvs_siz a
  simp only [lvs] at h2
  have e2 : (siz a + 1) * (siz a + 1) = siz a * siz a + 2 * siz a + 1 := by
   simp only [Nat.add_mul, Nat.mul_add, Nat.one_mul, Nat.mul_one]; omega
  simp only [siz]; omega
 | .cat a b, y, h => by
  rw [pdl] at h
  rcases List.mem_append.1 h with h | h
  ·obtain ⟨e, he, rfl⟩ := List.mem_map.1 h
   have h1 := pdl_lvs a e he
   have h2 := lvs_seq e b
   have h3 := lvs_siz b
   have h4 := sq_le h1 (s := siz a + siz b + 1) (by omega) (c := siz b) (by omega)
   simp only [siz]; omega
  ·have h1 := pdl_lvs b y h
   have h4 := sq_le h1 (s := siz a + siz b + 1) (by omega) (c := 0) (by omega)
   simp only [siz]; omega
 | .alt a b, y, h => by
  rw [pdl] at h
  rcases List.mem_append.1 h with h | h
  ·have h1 := pdl_lvs a y h
   have h4 := sq_le h1 (s := siz a + siz b + 1) (by omega) (c := 0) (by omega)
   simp only [siz]; omega
  ·have h1 := pdl_lvs b y h
   have h4 := sq_le h1 (s := siz a + siz b + 1) (by omega) (c := 0) (by omega)
   simp only [siz]; omega
theorem drv_len (sw : Int) : ∀ x, (drv sw x).length ≤ lvs x
 | .eps => Nat.le_refl _
 | .any => Nat.le_refl _
 | .one n => by rw [drv]; split <;> simp [lvs]
 | .star a => by rw [drv, List.length_map]; exact drv_len sw a
 | .cat a b => by
  have h1 := drv_len sw a
  have h2 := drv_len sw b
  rw [drv, List.length_append, List.length_map]
  simp only [lvs]
  split
  ·omega
  ·simp; omega
 | .alt a b => by
  have h1 := drv_len sw a
  have h2 := drv_len sw b
  rw [drv, List.length_append]
  simp only [lvs]; omega
theorem cls_of {x : Nx} (h : siz x ≤ 24) : Cls (x :: pdl x) := by
 have hq : siz x * siz x ≤ 24 * 24 := Nat.mul_le_mul h h
 refine ⟨fun y hy => ?_, fun y hy sw d hd => ?_, fun y hy sw => ?_, ?_⟩
 ·rcases List.mem_cons.1 hy with rfl | hy
  ·have := hgt_siz y; omega
  ·have := pdl_hgt x y hy; omega
 ·rcases List.mem_cons.1 hy with rfl | hy
  ·exact List.mem_cons_of_mem _ (drv_pdl sw y d hd)
  ·exact List.mem_cons_of_mem _ (pdl_clos sw x y hy d hd)
 ·have h1 := drv_len sw y
  rcases List.mem_cons.1 hy with rfl | hy
  ·have := lvs_siz y; omega
  ·have := pdl_lvs x y hy; omega
 ·have := pdl_len x
  have := lvs_siz x
  rw [List.length_cons]; omega
end Go.Proofs.Yticeakkgoafiaaa

/- Chapter 41: the reference's check of a list of nodes. -/
set_option maxRecDepth 100000
set_option maxHeartbeats 4000000
set_option linter.all false
namespace Go.Proofs.Yticeakkgoafiaaa
open Go.Vm
attribute [local push_cast] fmN fm0 take_N toN1 slN_nil encN slN cfg0 gfp_lenN gfd_lenN lfl_lenN
theorem pc49 (o : Int) : PC Try.prog 49 [.int .i64 o] (.int .i64 (arity o)) := by
 refine PC.walk tok mixed cfg0 Try.func49 rfl Try.call49 (by simp) (by first | rfl | simp) ?_; refine vms1 Try.ntmps49 ?_
 refine ⟨fun h => ?_, fun h1 => ⟨fun h => ?_, fun h2 => ⟨fun h => ?_, fun h3 => ⟨fun h => ?_, fun h4 => ⟨fun h => ?_, fun h5 => ⟨fun h => ?_, fun h6 => ?_⟩⟩⟩⟩⟩⟩
 ·refine endK.retA ?_; simp [evRes, getT, retV, Try.f49]
  rfl
 ·refine endK.retA ?_; simp [evRes, getT, retV, Try.f49]
  rfl
 ·refine endK.retA ?_; simp [evRes, getT, retV, Try.f49]
  rfl
 ·refine endK.retA ?_; simp [evRes, getT, retV, Try.f49]
  rfl
 ·refine endK.retA ?_; simp [evRes, getT, retV, Try.f49]
  rfl
 ·refine endK.retA ?_; simp [evRes, getT, retV, Try.f49]
  rfl
 ·refine endK.retA ?_; simp [evRes, getT, retV, Try.f49,  arity, h1, h2, h3, h4, h5, h6, or_self, if_false]
def repS (f : Nat → Nat × Int) : Nat → Nat → Nat × Int
 | 0, a => (a, 0)
 | n + 1, a => if (f a).2 ≠ 0 then f a else repS f n (f a).1
def scan (sw : Int) : Nat → List Nd → Nat → Nat × Int
 | 0, _, a => (a, 3)
 | k + 1, l, a => match l[a]? with
  | none => (a, 3)
  | some x => if chk1 sw x ≠ 0 then (a, chk1 sw x) else repS (scan sw k l) (arity x.op).toNat (a + 1)
theorem repS_le {f : Nat → Nat × Int} {m : Nat} (h : ∀ a, a ≤ m → (f a).1 ≤ m) : ∀ n a, a ≤ m → (repS f n a).1 ≤ m
 | 0, a, ha => ha
 | n + 1, a, ha => by
  rw [repS]
  split
  ·exact h a ha
  ·exact repS_le h n _ (h a ha)
theorem scan_le (sw : Int) : ∀ k l a, a ≤ l.length → (scan sw k l a).1 ≤ l.length
 | 0, l, a, h => h
 | k + 1, l, a, h => by
  rw [scan]
  split
  ·exact h
  ·rename_i x hx
   split
   ·exact h
   ·exact repS_le (scan_le sw k l) _ _ (List.getElem?_eq_some_iff.1 hx).1
theorem repS_ge {f : Nat → Nat × Int} (h : ∀ a, a ≤ (f a).1) : ∀ n a, a ≤ (repS f n a).1
 | 0, a => Nat.le_refl _
 | n + 1, a => by
  rw [repS]
  split
  ·exact h a
  ·exact Nat.le_trans (h a) (repS_ge h n _)
theorem scan_ge (sw : Int) : ∀ k l a, a ≤ (scan sw k l a).1
 | 0, l, a => Nat.le_refl _
 | k + 1, l, a => by
  rw [scan]
  split
  ·exact Nat.le_refl _
  ·split
   ·exact Nat.le_refl _
   ·exact Nat.le_trans (Nat.le_succ _) (repS_ge (scan_ge sw k l) _ _)
theorem repS_rep {l : List Nd} {f : Nat → Nat × Int} {g : List Nd → List Nd × Int} (h : ∀ a, a ≤ l.length → (f a).1 ≤ l.length ∧ (f a).2 = (g (l.drop a)).2 ∧ ((f a).2 = 0 → l.drop (f a).1 = (g (l.drop a)).1)) :
  ∀ n a, a ≤ l.length → (repS f n a).2 = (rep g n (l.drop a)).2 ∧ ((repS f n a).2 = 0 → l.drop (repS f n a).1 = (rep g n (l.drop a)).1)
 | 0, a, ha => ⟨rfl, fun _ => rfl⟩
 | n + 1, a, ha => by
  obtain ⟨h1, h2, h3⟩ := h a ha
  rw [repS, rep, ← h2]
  by_cases he : (f a).2 = 0
  ·rw [if_neg (fun h => h he), if_neg (fun h => h he), ← h3 he]
   exact repS_rep h n _ h1
  ·rw [if_pos he, if_pos he]
   exact ⟨rfl, fun h => absurd h he⟩
theorem scan_chk (sw : Int) : ∀ k l a, a ≤ l.length → (scan sw k l a).2 = (chk sw k (l.drop a)).2 ∧ ((scan sw k l a).2 = 0 → l.drop (scan sw k l a).1 = (chk sw k (l.drop a)).1)
 | 0, l, a, ha => by
  have : (chk sw 0 (l.drop a)).2 = 3 := by cases l.drop a <;> rfl
  rw [this]
  exact ⟨rfl, fun h => by simp [scan] at h⟩
 | k + 1, l, a, ha => by
  by_cases h : a < l.length
  ·rw [List.drop_eq_getElem_cons h, scan, List.getElem?_eq_getElem h, chk]
   simp only
   by_cases hc : chk1 sw l[a] = 0
   ·rw [if_neg (fun h => h hc), if_neg (fun h => h hc)]
    exact repS_rep (fun b hb => ⟨scan_le sw k l b hb, scan_chk sw k l b hb⟩) _ _ h
   ·rw [if_pos hc, if_pos hc]
    exact ⟨rfl, fun h => absurd h hc⟩
  ·rw [List.drop_of_length_le (by omega), scan, List.getElem?_eq_none (by omega)]
   exact ⟨rfl, fun h => by simp at h⟩
def encIE (r : Nat × Int) : V := .tup [.int .i64 r.1, .int .i64 r.2]
theorem encIE_d (r : Nat × Int) : encIE r = .tup [.int .i64 r.1, .int .i64 r.2] := rfl
theorem encIE_ok {r : Nat × Int} (h : r.2 = 0) : encIE r = .tup [.int .i64 r.1, .int .i64 0] := by
 rw [encIE, h]
theorem arity_le (o : Int) : arity o ≤ 2 := by
 unfold arity
 split
 ·decide
 split
 ·decide
 split <;> decide
theorem pc37 (sw : Int) : ∀ (k : Nat) (l : List Nd) (a : Nat), a ≤ l.length → l.length - a ≤ k → l.length ≤ 4000000 → PC Try.prog 37 [slN l, .int .i64 a, .int .i64 sw] (encIE (scan sw k l a)) := by
 intro k
 induction k with
 | zero =>
  intro l a ha hl _
  have hla : (l.length : Int) ≤ a := by omega
  refine PC.walk tok mixed cfg0 Try.func37 rfl Try.call37 (by simp) (by first | rfl | simp) ?_; refine vms1 Try.ntmps37 ?_
  refine endK.retA ?_; simp [evRes, getT, retV, Try.f37,  scan, encIE]
 | succ k ih =>
  intro l a ha hl hm
  by_cases hlt : a < l.length
  case neg =>
   have hla : (l.length : Int) ≤ a := by omega
   have hn : l[a]? = none := List.getElem?_eq_none (by omega)
   refine PC.walk tok mixed cfg0 Try.func37 rfl Try.call37 (by simp) (by first | rfl | simp) ?_; refine vms1 Try.ntmps37 ?_
   refine endK.retA ?_; simp [evRes, getT, retV, Try.f37,  scan, encIE, hn]
  have hx : l[a]? = some l[a] := List.getElem?_eq_getElem hlt
  have hs : scan sw (k + 1) l a = if chk1 sw l[a] ≠ 0 then (a, chk1 sw l[a]) else repS (scan sw k l) (arity l[a].op).toNat (a + 1) := by
   rw [scan, hx]
  rw [hs]
  generalize hX : l[a] = x at hs hx ⊢
  obtain ⟨op, n⟩ := x
  simp only at hs hx
  have h39 := pc49 op
  by_cases ha1 : arity op < 0
  ·have hc : chk1 sw ⟨op, n⟩ = 11 := by rw [chk1, if_pos ha1]
   rw [hc, if_pos (by decide)]
   refine PC.walk tok mixed cfg0 Try.func37 rfl Try.call37 (by simp) (by first | rfl | simp) ?_; refine vms1 Try.ntmps37 ?_
   refine vms1 hX ?_
   refine callO.pc h39 ?_
   refine vms1 ha1 ?_
   refine endK.retA ?_; simp [evRes, getT, retV, Try.f37,  encIE]
  obtain ⟨m, hA⟩ : ∃ m : Nat, arity op = (m : Int) := ⟨(arity op).toNat, by omega⟩
  by_cases hb : op = 3 ∧ badN sw ⟨op, n⟩
  ·have hc : chk1 sw ⟨op, n⟩ = 9 := by rw [chk1, if_neg ha1, if_pos hb]
   rw [hc, if_pos (by decide)]
   obtain ⟨h3, hb⟩ := hb
   by_cases b1 : n < 0
   ·refine PC.walk tok mixed cfg0 Try.func37 rfl Try.call37 (by simp) (by first | rfl | simp) ?_; refine vms1 Try.ntmps37 ?_
    refine vms1 hX ?_
    refine callO.pc h39 ?_
    simp (maxSteps := 2000000) -implicitDefEqProofs +contextual (disch := first | assumption | omega | decide +kernel) only [push_cast, ↓capI, seval, Nat.reduceLeDiff, Nat.reduceEqDiff, reduceCtorEq, ↓reduceIte, ha1, hX, h3, b1]
    refine endK.retA ?_; simp [evRes, getT, retV, Try.f37,  encIE]
   by_cases b2 : sw ≤ n
   ·refine PC.walk tok mixed cfg0 Try.func37 rfl Try.call37 (by simp) (by first | rfl | simp) ?_; refine vms1 Try.ntmps37 ?_
    refine vms1 hX ?_
    refine callO.pc h39 ?_
    simp (maxSteps := 2000000) -implicitDefEqProofs +contextual (disch := first | assumption | omega | decide +kernel) only [push_cast, ↓capI, seval, Nat.reduceLeDiff, Nat.reduceEqDiff, reduceCtorEq, ↓reduceIte, ha1, hX, h3, b1, b2]
    refine endK.retA ?_; simp [evRes, getT, retV, Try.f37,  encIE]
   have b3 : 999999999 < n := by rcases hb with h | h | h <;> simp only at h <;> omega
   refine PC.walk tok mixed cfg0 Try.func37 rfl Try.call37 (by simp) (by first | rfl | simp) ?_; refine vms1 Try.ntmps37 ?_
   refine vms1 hX ?_
   refine callO.pc h39 ?_
   simp (maxSteps := 2000000) -implicitDefEqProofs +contextual (disch := first | assumption | omega | decide +kernel) only [push_cast, ↓capI, seval, Nat.reduceLeDiff, Nat.reduceEqDiff, reduceCtorEq, ↓reduceIte, ha1, hX, h3, b1, b2, b3]
   refine endK.retA ?_; simp [evRes, getT, retV, Try.f37,  encIE]
  have hc : chk1 sw ⟨op, n⟩ = 0 := by rw [chk1, if_neg ha1, if_neg hb]
  rw [hc, if_neg (fun h => h rfl), hA, Int.toNat_natCast]
  have hle := arity_le op
  rw [hA] at h39
  have ha2 : ¬ (m : Int) < 0 := by omega
  by_cases h3 : op = 3
  ·subst h3
   have b0 : ¬ badN sw ⟨3, n⟩ := fun h => hb ⟨rfl, h⟩
   have b1 : ¬ n < 0 := fun h => b0 (.inl h)
   have b2 : ¬ sw ≤ n := fun h => b0 (.inr (.inl h))
   have b3 : ¬ 999999999 < n := fun h => b0 (.inr (.inr h))
   refine PC.walk tok mixed cfg0 Try.func37 rfl Try.call37 (by simp) (by first | rfl | simp) ?_; refine vms1 Try.ntmps37 ?_
   refine vms1 hX ?_
   refine callO.pc h39 ?_
   simp (maxSteps := 2000000) -implicitDefEqProofs +contextual (disch := first | assumption | omega | decide +kernel) only [push_cast, ↓capI, seval, Nat.reduceLeDiff, Nat.reduceEqDiff, reduceCtorEq, ↓reduceIte, ha2, hX, b1, b2, b3]
   refine T.lp tok mixed cfg0 (fun ((i, b) : Nat × Nat) => kp 1 (dd 1 (kp 1 (dd 5 (kp 1 (sv (.int .i64 b) (sv (.int .i64 i) (dd 68 (nl))))))))) (fun H0 ((i, b) : Nat × Nat) => []) (fun ((i, b) : Nat × Nat) => i ≤ m ∧ b ≤ l.length ∧ a < b ∧ repS (scan sw k l) (m - i) b = repS (scan sw k l) m (a + 1)) (fun ((i, b) : Nat × Nat) => m - i) ((0, a + 1)) ?_ ?_ ?_
   ·exact ⟨Nat.zero_le _, hlt, Nat.lt_succ_self _, rfl⟩
   ·exact Gn.canon (J := []) (by first | rfl | (simp [List.append_nil]; done) | (simp [List.append_nil]; rfl)) (by simp [wk, slN, putT, kp, dd, sv, nl]) (by simp [List.length_append]) (by simp [kp, dd, sv, nl]) (by simp)
   rintro ⟨i, b⟩ ⟨hi, hb', hab, hr⟩
   by_cases hin : i < m
   ·rw [show m - i = (m - (i + 1)) + 1 by omega, repS] at hr
    have hge := scan_ge sw k l b
    have hle := scan_le sw k l b hb'
    refine vms0 ?_
    refine callO.pc (ih l b hb' (by omega) hm) ?_
    by_cases he : (scan sw k l b).2 = 0
    ·rw [if_neg (fun h => h he)] at hr
     rw [encIE_ok he]
     refine vms1 he ?_
     refine ⟨(i + 1, (scan sw k l b).1), ⟨by (try simp only); omega, by (try simp only); omega, by (try simp only); omega, hr⟩, by (try simp only); omega, ?_⟩; exact Gn.canon (by first | rfl | (simp [List.append_nil]; rfl)) (by simp [wk, slN]) (by simp [List.length_append]) (by simp) (by simp)
    ·rw [if_pos he] at hr
     rw [encIE_d (scan sw k l b)]
     refine vms1 he ?_
     rw [← hr, encIE]
     refine endK.retA ?_; simp [evRes, getT, retV, Try.f37]
   ·rw [show m - i = 0 by omega, repS] at hr
    refine vms0 ?_
    rw [← hr, encIE]
    refine endK.retA ?_; simp [evRes, getT, retV, Try.f37]
  ·refine PC.walk tok mixed cfg0 Try.func37 rfl Try.call37 (by simp) (by first | rfl | simp) ?_; refine vms1 Try.ntmps37 ?_
   refine vms1 hX ?_
   refine callO.pc h39 ?_
   refine vms3 ha2 hX h3 ?_
   refine T.lp tok mixed cfg0 (fun ((i, b) : Nat × Nat) => kp 1 (dd 1 (kp 1 (dd 5 (kp 1 (sv (.int .i64 b) (sv (.int .i64 i) (dd 68 (nl))))))))) (fun H0 ((i, b) : Nat × Nat) => []) (fun ((i, b) : Nat × Nat) => i ≤ m ∧ b ≤ l.length ∧ a < b ∧ repS (scan sw k l) (m - i) b = repS (scan sw k l) m (a + 1)) (fun ((i, b) : Nat × Nat) => m - i) ((0, a + 1)) ?_ ?_ ?_
   ·exact ⟨Nat.zero_le _, hlt, Nat.lt_succ_self _, rfl⟩
   ·exact Gn.canon (J := []) (by first | rfl | (simp [List.append_nil]; done) | (simp [List.append_nil]; rfl)) (by simp [wk, slN, putT, kp, dd, sv, nl]) (by simp [List.length_append]) (by simp [kp, dd, sv, nl]) (by simp)
   rintro ⟨i, b⟩ ⟨hi, hb', hab, hr⟩
   by_cases hin : i < m
   ·rw [show m - i = (m - (i + 1)) + 1 by omega, repS] at hr
    have hge := scan_ge sw k l b
    have hle := scan_le sw k l b hb'
    refine vms0 ?_
    refine callO.pc (ih l b hb' (by omega) hm) ?_
    by_cases he : (scan sw k l b).2 = 0
    ·rw [if_neg (fun h => h he)] at hr
     rw [encIE_ok he]
     refine vms1 he ?_
     refine ⟨(i + 1, (scan sw k l b).1), ⟨by (try simp only); omega, by (try simp only); omega, by (try simp only); omega, hr⟩, by (try simp only); omega, ?_⟩; exact Gn.canon (by first | rfl | (simp [List.append_nil]; rfl)) (by simp [wk, slN]) (by simp [List.length_append]) (by simp) (by simp)
    ·rw [if_pos he] at hr
     rw [encIE_d (scan sw k l b)]
     refine vms1 he ?_
     rw [← hr, encIE]
     refine endK.retA ?_; simp [evRes, getT, retV, Try.f37]
   ·rw [show m - i = 0 by omega, repS] at hr
    refine vms0 ?_
    rw [← hr, encIE]
    refine endK.retA ?_; simp [evRes, getT, retV, Try.f37]
theorem pc76 (p : Pr) (l : List Nd) (a : Nat) (r : List Nd) (hp : scan 1000000000 (l.length - a) l a = (a + (flat p).length, 0)) (ha : a ≤ l.length) (hn : a + (flat p).length ≤ l.length) (hl : l.length ≤ 4000000) :
  PC Try.prog 76 [slN l, .int .i64 a] (.int .i64 ((a : Int) + (flat p).length)) := by
 have hs := pc37 1000000000 (l.length - a) l a ha (Nat.le_refl _) hl
 rw [hp, encIE] at hs
 refine PC.walk tok mixed cfg0 Try.func76 rfl Try.call76 (by simp) (by first | rfl | simp) ?_; refine vms1 Try.ntmps76 ?_
 refine callO.pc hs ?_
 refine vms0 ?_
 refine endK.retA ?_; simp [evRes, getT, retV, Try.f76,  Int.natCast_add]
theorem pc22 (sw : Int) (l : List Nd) (hl : l.length ≤ 4000000) : PC Try.prog 22 [slN l, .int .i64 sw] (.int .i64 (checkP sw l)) := by
 by_cases h : 24 < l.length
 ·refine PC.walk tok mixed cfg0 Try.func22 rfl Try.call22 (by simp) (by first | rfl | simp) ?_; refine vms1 Try.ntmps22 ?_
  refine endK.retA ?_; simp [evRes, getT, retV, Try.f22,  checkP, h]
 refine PC.walk tok mixed cfg0 Try.func22 rfl Try.call22 (by simp) (by first | rfl | simp) ?_; refine vms1 Try.ntmps22 ?_
 have hs := scan_chk sw l.length l 0 (Nat.zero_le _)
 rw [List.drop_zero] at hs
 refine callO.pc (pc37 sw l.length l 0 (Nat.zero_le _) (Nat.sub_le _ _) hl) ?_
 have hle := scan_le sw l.length l 0 (Nat.zero_le _)
 rw [checkP, if_neg h, ← hs.1]
 by_cases he : (scan sw l.length l 0).2 = 0
 ·rw [encIE_ok he]
  have h2 := hs.2 he
  by_cases hn : (scan sw l.length l 0).1 < l.length
  ·rw [if_pos ⟨he, fun e => by rw [e] at h2; have := List.drop_eq_nil_iff.1 h2; omega⟩]
   refine vms1 hn ?_
   refine endK.retA ?_; simp [evRes, getT, retV, Try.f22]
  ·rw [if_neg (fun g => g.2 (by rw [← h2]; exact List.drop_eq_nil_iff.2 (by omega))), he]
   refine vms1 hn ?_
   refine endK.retA ?_; simp [evRes, getT, retV, Try.f22]
 ·rw [if_neg (fun g => he g.1), encIE]
  refine vms1 he ?_
  refine endK.retA ?_; simp [evRes, getT, retV, Try.f22]
theorem pc46 (l : List Nd) (hl : l.length ≤ 4000000) : PC Try.prog 46 [slN l] (.bool (decide (checkP 1000000000 l = 0))) := by
 refine PC.walk tok mixed cfg0 Try.func46 rfl Try.call46 (by simp) (by first | rfl | simp) ?_; refine vms1 Try.ntmps46 ?_
 refine callO.pc (pc22 1000000000 l hl) ?_
 refine vms0 ?_
 refine endK.retA ?_; simp [evRes, getT, retV, Try.f46,  ibeq_dec]
end Go.Proofs.Yticeakkgoafiaaa

/- Chapter 41: where the subexpressions of a tree end in its list. -/
set_option maxRecDepth 100000
set_option maxHeartbeats 4000000
set_option linter.all false
namespace Go.Proofs.Yticeakkgoafiaaa
open Go.Vm
theorem drop_cons {α : Type} {l r : List α} {a : Nat} {x : α} (h : l.drop a = x :: r) : ∃ ha : a < l.length, l[a] = x ∧ l.drop (a + 1) = r := by
 have ha : a < l.length := by
  have := congrArg List.length h
  rw [List.length_drop, List.length_cons] at this
  omega
 rw [List.drop_eq_getElem_cons ha] at h
 injection h with h1 h2
 exact ⟨ha, h1, h2⟩
theorem drop_app {α : Type} {l p r : List α} {a : Nat} (h : l.drop a = p ++ r) : l.drop (a + p.length) = r := by
 rw [← List.drop_drop, h, List.drop_left]
theorem drop_len {α : Type} {l p r : List α} {a : Nat} (ha : a ≤ l.length) (h : l.drop a = p ++ r) : a + p.length + r.length = l.length := by
 have := congrArg List.length h
 rw [List.length_drop, List.length_append] at this
 omega
theorem scan_tree (sw : Int) : ∀ (p : Pr) (k : Nat) (l : List Nd) (a : Nat) (r : List Nd), okP sw p → l.drop a = flat p ++ r → (flat p).length ≤ k → scan sw k l a = (a + (flat p).length, 0)
 | p, 0, l, a, r, _, _, hk => by
  have := flat_pos p
  omega
 | .leaf x, k + 1, l, a, r, hp, hl, hk => by
  obtain ⟨ha, hx, _⟩ := drop_cons (x := x) (r := r) hl
  obtain ⟨h0, hc⟩ := hp
  have har : arity x.op = 0 := by rw [arity, if_pos h0]
  rw [scan, List.getElem?_eq_getElem ha]
  simp only [hx]
  rw [if_neg (fun g => g hc), har]
  rfl
 | .un x p, k + 1, l, a, r, hp, hl, hk => by
  obtain ⟨ha, hx, h2⟩ := drop_cons (x := x) (r := flat p ++ r) hl
  obtain ⟨h4, hp⟩ := hp
  have har : arity x.op = 1 := by rw [h4]; rfl
  have i1 := scan_tree sw p k l (a + 1) r hp h2 (by rw [flat, List.length_cons] at hk; omega)
  rw [scan, List.getElem?_eq_getElem ha]
  simp only [hx]
  rw [if_neg (fun g => g (chk1_op (.inl h4))), har, show (1 : Int).toNat = 0 + 1 from rfl, repS, i1, if_neg (fun g => g rfl), repS, flat, List.length_cons]
  congr 1
  omega
 | .bin x p q, k + 1, l, a, r, hp, hl, hk => by
  obtain ⟨ha, hx, h2⟩ := drop_cons (x := x) (r := flat p ++ (flat q ++ r)) (by rw [hl, flat, List.cons_append, List.append_assoc])
  obtain ⟨h4, hp, hq⟩ := hp
  have har : arity x.op = 2 := by rcases h4 with h4 | h4 <;> rw [h4] <;> rfl
  rw [flat, List.length_cons, List.length_append] at hk
  have i1 := scan_tree sw p k l (a + 1) _ hp h2 (by omega)
  have i2 := scan_tree sw q k l (a + 1 + (flat p).length) r hq (drop_app h2) (by omega)
  rw [scan, List.getElem?_eq_getElem ha]
  simp only [hx]
  rw [if_neg (fun g => g (chk1_op (.inr h4))), har, show (2 : Int).toNat = 0 + 1 + 1 from rfl, repS, i1, if_neg (fun g => g rfl), repS, i2, if_neg (fun g => g rfl), repS, flat, List.length_cons, List.length_append]
  congr 1
  omega
theorem end40 (p : Pr) (l : List Nd) (a : Nat) (r : List Nd) (hp : okP 1000000000 p) (h : l.drop a = flat p ++ r) (ha : a ≤ l.length) (hl : l.length ≤ 4000000) :
  PC Try.prog 76 [slN l, .int .i64 a] (.int .i64 ((a : Int) + (flat p).length)) := by
 have hn := drop_len ha h
 exact pc76 p l a r (scan_tree 1000000000 p _ l a r hp h (by omega)) ha (by omega) hl
theorem checkP_tree {sw : Int} {l : List Nd} (h : checkP sw l = 0) : l.length ≤ 24 ∧ ∃ p, okP sw p ∧ l = flat p := by
 unfold checkP at h
 split at h
 ·omega
 split at h
 ·omega
 rename_i h1 h2
 refine ⟨by omega, ?_⟩
 obtain ⟨p, hp, hl⟩ := chk_tree sw l.length l h
 refine ⟨p, hp, ?_⟩
 have : (chk sw l.length l).1 = [] := Decidable.not_not.1 (fun g => h2 ⟨h, g⟩)
 rw [this, List.append_nil] at hl
 exact hl
theorem tree_checkP {sw : Int} : ∀ {p : Pr}, okP sw p → (flat p).length ≤ 24 → checkP sw (flat p) = 0 := by
 intro p hp hl
 have hs := scan_chk sw (flat p).length (flat p) 0 (Nat.zero_le _)
 rw [List.drop_zero, scan_tree sw p _ (flat p) 0 [] hp (by rw [List.drop_zero, List.append_nil]) (Nat.le_refl _)] at hs
 rw [checkP, if_neg (by omega), ← hs.1, if_neg]
 rintro ⟨_, h⟩
 apply h
 rw [← hs.2 rfl]
 exact List.drop_eq_nil_iff.2 (by simp)
end Go.Proofs.Yticeakkgoafiaaa

/- Chapter 42: Build of the program. -/
set_option maxRecDepth 100000
set_option maxHeartbeats 4000000
set_option linter.all false
namespace Go.Proofs.Yticeakkgoafiaaa
open Go.Vm
theorem siz_nx (sw : Int) : ∀ p, okP sw p → siz (nxP p) ≤ (flat p).length
 | .leaf x, _ => by
  simp only [nxP, flat, List.length_singleton]
  split
  ·exact Nat.le_refl _
  ·split <;> exact Nat.le_refl _
 | .un x p, h => by
  have := siz_nx sw p h.2
  simp only [nxP, flat, siz, List.length_cons]; omega
 | .bin x p q, h => by
  have h1 := siz_nx sw p h.2.1
  have h2 := siz_nx sw q h.2.2
  simp only [nxP, flat, List.length_cons, List.length_append]
  split <;> simp only [siz] <;> omega
def detT (x : Nx) (m : Nat) : Tb := ⟨(detN m x bigN).rows, (detN m x bigN).accs⟩
theorem row_rng {D : List Nx} (hD : Cls D) {set : W64} {L : List Nx} {sets : List W64} (h : Rok D ⟨L, sets, []⟩) : ∀ n, ∀ x ∈ (rowN set L sets n).row, -1 ≤ x ∧ x < ((rowN set L sets n).sets.length : Int)
 | 0, x, hx => by simp [rowN] at hx
 | n + 1, x, hx => by
  have ih := row_rng hD (set := set) h n
  have hst := rowN_sets set L sets n
  rw [rowN, rowI] at hx ⊢
  split at hx
  ·rename_i h0
   rw [if_pos h0]
   rcases List.mem_append.1 hx with hx | hx
   ·exact ih x hx
   ·rw [List.mem_singleton] at hx; subst hx; simp only; omega
  ·rename_i h0
   rw [if_neg h0]
   split at hx
   ·rename_i k hk
    simp only [hk] at hx ⊢
    rcases List.mem_append.1 hx with hx | hx
    ·exact ih x hx
    ·rw [List.mem_singleton] at hx
     subst hx
     have aux : ∀ (l : List W64) (y : W64) (k : Nat), idxW y l = some k → k < l.length := by
      intro l
      induction l with
      | nil => intro y k h; simp [idxW] at h
      | cons z r ih =>
       intro y k h
       simp only [idxW] at h
       split at h
       ·simp at h; subst h; simp
       ·rw [Option.map_eq_some_iff] at h
        obtain ⟨j, hj, rfl⟩ := h
        have := ih y j hj
        simp; omega
     have := aux _ _ _ hk
     omega
   ·rename_i hk
    simp only [hk] at hx ⊢
    simp only [List.length_append, List.length_singleton]
    rcases List.mem_append.1 hx with hx | hx
    ·have := ih x hx; omega
    ·rw [List.mem_singleton] at hx; subst hx; omega
structure Dinv (m i : Nat) (s : Ds2) : Prop where
 rows : s.rows.length = min i s.sets.length
 accs : s.accs.length = min i s.sets.length
 row : ∀ r ∈ s.rows, r.length = m ∧ ∀ x ∈ r, -1 ≤ x ∧ x < (s.sets.length : Int)
 pos : 0 < s.sets.length
theorem detN_inv {D : List Nx} (hD : Cls D) {x : Nx} (hx : x ∈ D) {m : Nat} : ∀ i, Dinv m i (detN m x i)
 | 0 => ⟨by simp [detN], by simp [detN], fun r hr => by simp [detN] at hr, by simp [detN]⟩
 | i + 1 => by
  have ih := detN_inv hD hx (m := m) i
  have hok := detN_ok hD hx (m := m) i
  rw [detN, detI]
  split
  ·rename_i set hs
   have hlt := (List.getElem?_eq_some_iff.1 hs).1
   obtain ⟨r, hr⟩ := rowN_sets set (detN m x i).L (detN m x i).sets m
   have hle : (detN m x i).sets.length ≤ (rowN set (detN m x i).L (detN m x i).sets m).sets.length := by rw [hr, List.length_append]; omega
   have h1 := ih.rows
   have h2 := ih.accs
   refine ⟨?_, ?_, fun q hq => ?_, by simp only; omega⟩
   ·simp only [List.length_append, List.length_singleton]; omega
   ·simp only [List.length_append, List.length_singleton]; omega
   ·simp only at hq ⊢
    rcases List.mem_append.1 hq with hq | hq
    ·have h3 := ih.row q hq
     exact ⟨h3.1, fun y hy => ⟨(h3.2 y hy).1, by have := (h3.2 y hy).2; omega⟩⟩
    ·rw [List.mem_singleton] at hq
     subst hq
     exact ⟨rowN_len _ _ _ _, row_rng hD hok m⟩
  ·rename_i hs
   have hge := List.getElem?_eq_none_iff.1 hs
   have h1 := ih.rows
   have h2 := ih.accs
   exact ⟨by omega, by omega, ih.row, ih.pos⟩
theorem detT_okN {D : List Nx} (hD : Cls D) {x : Nx} (hx : x ∈ D) {m N : Nat} (hN : 2 ^ 30 ≤ N) (hm : m ≤ 16) (hm1 : 0 < m) : okT (detN m x N).sets.length m ⟨(detN m x N).rows, (detN m x N).accs⟩ ∧ (detN m x N).sets.length ≤ N := by
 have hi := detN_inv hD hx (m := m) N
 have hl := (detN_ok hD hx (m := m) N).len hD
 simp only at hl
 have h1 := hi.rows
 have h2 := hi.accs
 exact ⟨⟨by simp only; omega, by simp only; omega, fun r hr => (hi.row r hr).1, fun r hr => (hi.row r hr).2, hi.pos, by omega, hm, hm1⟩, by omega⟩
theorem detT_ok {D : List Nx} (hD : Cls D) {x : Nx} (hx : x ∈ D) {m : Nat} (hm : m ≤ 16) (hm1 : 0 < m) : okT (detN m x bigN).sets.length m (detT x m) ∧ (detN m x bigN).sets.length ≤ bigN :=
 detT_okN hD hx (Nat.le_refl _) hm hm1
def bldV (t : Tb) : V := if 64 < t.next.length then .tup [zTb, .int .i64 12] else .tup [.agg (encT t), .int .i64 0]
def BldR (f : Nat) (r : List Nd) (sw : Int) : Prop :=
 ((sw < 1 ∨ 16 < sw) ∧ PC Try.prog f [slN r, .int .i64 sw] (.tup [zTb, .int .i64 9])) ∨
 (¬ (sw < 1 ∨ 16 < sw) ∧ checkP sw r ≠ 0 ∧ PC Try.prog f [slN r, .int .i64 sw] (.tup [zTb, .int .i64 (checkP sw r)])) ∨
 (¬ (sw < 1 ∨ 16 < sw) ∧ checkP sw r = 0 ∧ ∃ p, okP sw p ∧ r = flat p ∧ r.length ≤ 24 ∧ PC Try.prog f [slN r, .int .i64 sw] (bldV (minS (detT (nxP p) sw.toNat))))
attribute [local push_cast] cfg0 fmN fm0 take_N toN1 slN_nil encN slN gfp_lenN gfd_lenN lfl_lenN getV_map getV_mapO List.length_map Nat.mul_one slI slR slB encT zTb encA
theorem bld9 {r : List Nd} {sw : Int} (hr : r.length ≤ 4000000) : BldR 40 r sw := by
 by_cases hs : sw < 1 ∨ 16 < sw
 ·refine .inl ⟨hs, ?_⟩
  rcases hs with h | h
  ·refine PC.walk tok mixed cfg0 Try.func40 rfl Try.call40 (by simp [bel_clA]) (by first | rfl | simp [bel_clA]) ?_; refine vms1 Try.ntmps40 ?_
   refine endK.ret ?_ (by first | rfl | simp [bel_clA]); simp [evRes, getT, retV, Try.f40,  zTb, tt_58, Res.then, ldT, ldR, getO, mkV, getV, imp, lenOK_iff]
  ·refine PC.walk tok mixed cfg0 Try.func40 rfl Try.call40 (by simp [bel_clA]) (by first | rfl | simp [bel_clA]) ?_; refine vms1 Try.ntmps40 ?_
   (try refine vms1 h ?_)
   refine endK.ret ?_ (by first | rfl | simp [bel_clA]); simp [evRes, getT, retV, Try.f40,  zTb, tt_58, Res.then, ldT, ldR, getO, mkV, getV, imp, lenOK_iff]
 have hs1 : ¬ sw < 1 := fun h => hs (.inl h)
 have hs2 : ¬ 16 < sw := fun h => hs (.inr h)
 have h23 := pc39 sw r hr
 by_cases hc : checkP sw r = 0
 ·rcases tree36 sw r hr with ⟨_, p, hp, hf, h24, _⟩ | ⟨h, _⟩
  case inr => exact absurd hc h
  refine .inr (.inr ⟨hs, hc, p, hp, hf, h24, ?_⟩)
  have hsz := siz_nx sw p hp
  rw [← hf] at hsz
  have hD := cls_of (x := nxP p) (by omega)
  have h24' := pc53 sw p [] hp (by rw [List.append_nil, ← hf]; exact hr)
  rw [List.append_nil, ← hf] at h24'
  obtain ⟨m, rfl⟩ : ∃ m : Nat, sw = (m : Int) := ⟨sw.toNat, by omega⟩
  have h25 := pc54 hD (x := nxP p) (by simp) (m := m) (by omega) (by omega)
  have hT := (detT_ok hD (x := nxP p) (by simp) (m := m) (by omega) (by omega)).1
  have h26 := pc55 hT
  rw [show (⟨(detN m (nxP p) bigN).rows, (detN m (nxP p) bigN).accs⟩ : Tb) = detT (nxP p) m from rfl] at h25
  rw [Int.toNat_natCast, bldV]
  clear hT
  generalize detT (nxP p) m = u at h25 h26 ⊢
  generalize minS u = w at h26 ⊢
  obtain ⟨n1, a1⟩ := u
  obtain ⟨n2, a2⟩ := w
  by_cases h64 : 64 < n2.length
  ·rw [if_pos h64]
   refine PC.walk tok mixed cfg0 Try.func40 rfl Try.call40 (by simp [bel_clA]) (by first | rfl | simp [bel_clA]) ?_; refine vms1 Try.ntmps40 ?_
   (try refine vms2 hs1 hs2 ?_)
   refine callO.pc h23 ?_
   refine vms1 hc ?_
   refine callO.pc h24' ?_
   refine vms0 ?_
   refine callO.pc h25 ?_
   refine vms0 ?_
   refine callO.pc h26 ?_
   refine vms1 h64 ?_
   refine endK.ret ?_ (by first | rfl | simp [bel_clA]); simp [evRes, getT, retV, Try.f40,  zTb, tt_58, Res.then, ldT, ldR, getO, mkV, getV, imp, lenOK_iff]
  ·rw [if_neg h64]
   refine PC.walk tok mixed cfg0 Try.func40 rfl Try.call40 (by simp [bel_clA]) (by first | rfl | simp [bel_clA]) ?_; refine vms1 Try.ntmps40 ?_
   (try refine vms2 hs1 hs2 ?_)
   refine callO.pc h23 ?_
   refine vms1 hc ?_
   refine callO.pc h24' ?_
   refine vms0 ?_
   refine callO.pc h25 ?_
   refine vms0 ?_
   refine callO.pc h26 ?_
   refine vms1 h64 ?_
   refine endK.ret ?_ (by first | rfl | simp [bel_clA]); simp [evRes, getT, retV, Try.f40,  zTb, tt_58, Res.then, ldT, ldR, getO, mkV, getV, imp, lenOK_iff, encT, slR, slB]
 ·refine .inr (.inl ⟨hs, hc, ?_⟩)
  refine PC.walk tok mixed cfg0 Try.func40 rfl Try.call40 (by simp [bel_clA]) (by first | rfl | simp [bel_clA]) ?_; refine vms1 Try.ntmps40 ?_
  (try refine vms2 hs1 hs2 ?_)
  refine callO.pc h23 ?_
  refine vms1 hc ?_
  refine endK.ret ?_ (by first | rfl | simp [bel_clA]); simp [evRes, getT, retV, Try.f40,  zTb, tt_58, Res.then, ldT, ldR, getO, mkV, getV, imp, lenOK_iff]
end Go.Proofs.Yticeakkgoafiaaa


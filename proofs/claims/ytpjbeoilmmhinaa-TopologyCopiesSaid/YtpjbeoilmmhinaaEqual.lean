/-
  Chapter 40: whether two topologies are equal.
-/
import Derived.Test.YtpjbeoilmmhinaaSmall2
set_option maxRecDepth 100000
set_option linter.all false
namespace Go.Proofs.Ytpjbeoilmmhinaa
open Go.Vm

theorem eqL {x y : Lk} : (x.a.1 == y.a.1 && (x.a.2 == y.a.2 && (x.b.1 == y.b.1 && (x.b.2 == y.b.2 && (x.dn == y.dn))))) = decide (x = y) := by
  obtain ⟨⟨a1, a2⟩, ⟨b1, b2⟩, d⟩ := x
  obtain ⟨⟨c1, c2⟩, ⟨e1, e2⟩, f⟩ := y
  simp only [Lk.mk.injEq, Prod.mk.injEq, Bool.decide_and, Bool.and_assoc]
  rfl
theorem Tp.ext' {a b : Tp} (h1 : a.ports = b.ports) (h2 : a.links = b.links) (h3 : a.hosts = b.hosts) : a = b := by
  cases a; cases b; simp_all

theorem pc25 (a b : Tp) (ha : a.fit) (hb : b.fit) : PC Try.prog 25 [.agg (encT a), .agg (encT b)] (.bool (decide (a = b))) := by
  have ha1 := ha.ports
  have ha2 := ha.links
  have ha3 := ha.hosts
  refine PC.walk tok mixed cfg0 Try.func25 rfl Try.call25 (by simp [belAll, V.bel, belObs, Ob.bel, belT, belP, bel_slI, bel_slL, bel_slP, bel_ints, bel_Ps, bel_Ls]) (by first | rfl | simp [belAll, V.bel, belObs, Ob.bel, belT, belP, bel_slI, bel_slL, bel_slP, bel_ints, bel_Ps, bel_Ls]) ?_; simp (config := { maxSteps := 2000000 }) -implicitDefEqProofs +contextual (disch := first | assumption | omega | decide +kernel) only [push_cast, ↓capI, br2_true, br2_false, frk_tt, frk_tf, frk_f, frkD_tt, frkD_tf, frkD_f, pk2_true, pk2_false, imp_true, Nat.reduceAdd, Nat.reduceSub, Nat.reduceMul, Nat.reduceLeDiff, Nat.reduceLT, reduceCtorEq, ↓reduceIte, Nat.reduceEqDiff, Nat.reduceSub, Nat.reduceMul, Int.reduceNeg, Int.reduceLT, Int.reduceLE, Int.reduceAdd, Int.reduceSub, Int.reduceMul, Int.reduceEq, Int.reduceToNat, Nat.reduceDiv, Nat.reduceMod, Nat.reduceBEq, Nat.reduceBNe, reduceCtorEq, tt_26, tt_32, tt_22, tt_23, tt_24, tt_3, tt_4, tt_42, encT, encP, encL, slI, slP, slL, cfg0, get_flat_part lenP, get_flat_part lenL, get_flat_drop lenL, len_flat lenP, len_flat lenL, eqP, eqL, getI_nat, Try.ntmps25]
  have hne : ∀ {r : Bool}, r = false → (a.ports ≠ b.ports ∨ a.links ≠ b.links ∨ a.hosts ≠ b.hosts) → r = decide (a = b) := by
    intro r hr h
    rw [hr]
    refine (decide_eq_false ?_).symm
    rintro rfl
    simp at h
  by_cases h1 : a.ports.length = b.ports.length
  case neg =>
    simp (config := { maxSteps := 2000000 }) -implicitDefEqProofs +contextual (disch := first | assumption | omega | decide +kernel) only [push_cast, ↓capI, br2_true, br2_false, frk_tt, frk_tf, frk_f, frkD_tt, frkD_tf, frkD_f, pk2_true, pk2_false, imp_true, Nat.reduceAdd, Nat.reduceSub, Nat.reduceMul, Nat.reduceLeDiff, Nat.reduceLT, reduceCtorEq, ↓reduceIte, Nat.reduceEqDiff, Nat.reduceSub, Nat.reduceMul, Int.reduceNeg, Int.reduceLT, Int.reduceLE, Int.reduceAdd, Int.reduceSub, Int.reduceMul, Int.reduceEq, Int.reduceToNat, Nat.reduceDiv, Nat.reduceMod, Nat.reduceBEq, Nat.reduceBNe, reduceCtorEq, tt_26, tt_32, tt_22, tt_23, tt_24, tt_3, tt_4, tt_42, encT, encP, encL, slI, slP, slL, cfg0, get_flat_part lenP, get_flat_part lenL, get_flat_drop lenL, len_flat lenP, len_flat lenL, eqP, eqL, getI_nat]
    refine endK.ret ?_ (by first | rfl | simp [belAll, V.bel, belObs, Ob.bel, belT, belP, bel_slI, bel_slL, bel_slP, bel_ints, bel_Ps, bel_Ls]); simp [evRes, getT, retV, Try.f25,  ← hne rfl (.inl fun e => h1 (by rw [e]))]
  by_cases h2 : a.links.length = b.links.length
  case neg =>
    simp (config := { maxSteps := 2000000 }) -implicitDefEqProofs +contextual (disch := first | assumption | omega | decide +kernel) only [push_cast, ↓capI, br2_true, br2_false, frk_tt, frk_tf, frk_f, frkD_tt, frkD_tf, frkD_f, pk2_true, pk2_false, imp_true, Nat.reduceAdd, Nat.reduceSub, Nat.reduceMul, Nat.reduceLeDiff, Nat.reduceLT, reduceCtorEq, ↓reduceIte, Nat.reduceEqDiff, Nat.reduceSub, Nat.reduceMul, Int.reduceNeg, Int.reduceLT, Int.reduceLE, Int.reduceAdd, Int.reduceSub, Int.reduceMul, Int.reduceEq, Int.reduceToNat, Nat.reduceDiv, Nat.reduceMod, Nat.reduceBEq, Nat.reduceBNe, reduceCtorEq, tt_26, tt_32, tt_22, tt_23, tt_24, tt_3, tt_4, tt_42, encT, encP, encL, slI, slP, slL, cfg0, get_flat_part lenP, get_flat_part lenL, get_flat_drop lenL, len_flat lenP, len_flat lenL, eqP, eqL, getI_nat]
    refine endK.ret ?_ (by first | rfl | simp [belAll, V.bel, belObs, Ob.bel, belT, belP, bel_slI, bel_slL, bel_slP, bel_ints, bel_Ps, bel_Ls]); simp [evRes, getT, retV, Try.f25,  ← hne rfl (.inr (.inl fun e => h2 (by rw [e])))]
  by_cases h3 : a.hosts.length = b.hosts.length
  case neg =>
    simp (config := { maxSteps := 2000000 }) -implicitDefEqProofs +contextual (disch := first | assumption | omega | decide +kernel) only [push_cast, ↓capI, br2_true, br2_false, frk_tt, frk_tf, frk_f, frkD_tt, frkD_tf, frkD_f, pk2_true, pk2_false, imp_true, Nat.reduceAdd, Nat.reduceSub, Nat.reduceMul, Nat.reduceLeDiff, Nat.reduceLT, reduceCtorEq, ↓reduceIte, Nat.reduceEqDiff, Nat.reduceSub, Nat.reduceMul, Int.reduceNeg, Int.reduceLT, Int.reduceLE, Int.reduceAdd, Int.reduceSub, Int.reduceMul, Int.reduceEq, Int.reduceToNat, Nat.reduceDiv, Nat.reduceMod, Nat.reduceBEq, Nat.reduceBNe, reduceCtorEq, tt_26, tt_32, tt_22, tt_23, tt_24, tt_3, tt_4, tt_42, encT, encP, encL, slI, slP, slL, cfg0, get_flat_part lenP, get_flat_part lenL, get_flat_drop lenL, len_flat lenP, len_flat lenL, eqP, eqL, getI_nat]
    refine endK.ret ?_ (by first | rfl | simp [belAll, V.bel, belObs, Ob.bel, belT, belP, bel_slI, bel_slL, bel_slP, bel_ints, bel_Ps, bel_Ls]); simp [evRes, getT, retV, Try.f25,  ← hne rfl (.inr (.inr fun e => h3 (by rw [e])))]
  simp (config := { maxSteps := 2000000 }) -implicitDefEqProofs +contextual (disch := first | assumption | omega | decide +kernel) only [push_cast, ↓capI, br2_true, br2_false, frk_tt, frk_tf, frk_f, frkD_tt, frkD_tf, frkD_f, pk2_true, pk2_false, imp_true, Nat.reduceAdd, Nat.reduceSub, Nat.reduceMul, Nat.reduceLeDiff, Nat.reduceLT, reduceCtorEq, ↓reduceIte, Nat.reduceEqDiff, Nat.reduceSub, Nat.reduceMul, Int.reduceNeg, Int.reduceLT, Int.reduceLE, Int.reduceAdd, Int.reduceSub, Int.reduceMul, Int.reduceEq, Int.reduceToNat, Nat.reduceDiv, Nat.reduceMod, Nat.reduceBEq, Nat.reduceBNe, reduceCtorEq, tt_26, tt_32, tt_22, tt_23, tt_24, tt_3, tt_4, tt_42, encT, encP, encL, slI, slP, slL, cfg0, get_flat_part lenP, get_flat_part lenL, get_flat_drop lenL, len_flat lenP, len_flat lenL, eqP, eqL, getI_nat]
  refine T.lp tok mixed cfg0 (fun (j : Nat) => dd 2 (kp 2 (dd 1 (sv (.int .i64 j) (dd 81 (nl)))))) (fun H0 (j : Nat) => H0) (fun (j : Nat) => decide (a.ports.drop j = b.ports.drop j) = decide (a.ports = b.ports)) (fun (j : Nat) => a.ports.length - j) (0) ?_ ?_ ?_
  · rfl
  · exact Gn.canon (J := _) (by first | rfl | (simp [List.append_nil]; done) | (simp [List.append_nil]; rfl)) (by simp [wk, slP, slL, slI, putT, kp, dd, sv, nl]) (by simp [List.length_append]) (by simp [belAll, V.bel, belObs, Ob.bel, belT, belP, bel_slI, bel_slL, bel_slP, bel_ints, bel_Ps, bel_Ls, kp, dd, sv, nl]) (by simp [belAll, V.bel, belObs, Ob.bel, belT, belP, bel_slI, bel_slL, bel_slP, bel_ints, bel_Ps, bel_Ls])
  intro j hj
  simp (config := { maxSteps := 2000000 }) -implicitDefEqProofs +contextual (disch := first | assumption | omega | decide +kernel) only [push_cast, ↓capI, br2_true, br2_false, frk_tt, frk_tf, frk_f, frkD_tt, frkD_tf, frkD_f, pk2_true, pk2_false, imp_true, Nat.reduceAdd, Nat.reduceSub, Nat.reduceMul, Nat.reduceLeDiff, Nat.reduceLT, reduceCtorEq, ↓reduceIte, Nat.reduceEqDiff, Nat.reduceSub, Nat.reduceMul, Int.reduceNeg, Int.reduceLT, Int.reduceLE, Int.reduceAdd, Int.reduceSub, Int.reduceMul, Int.reduceEq, Int.reduceToNat, Nat.reduceDiv, Nat.reduceMod, Nat.reduceBEq, Nat.reduceBNe, reduceCtorEq, tt_26, tt_32, tt_22, tt_23, tt_24, tt_3, tt_4, tt_42, encT, encP, encL, slI, slP, slL, cfg0, get_flat_part lenP, get_flat_part lenL, get_flat_drop lenL, len_flat lenP, len_flat lenL, eqP, eqL, getI_nat]
  refine ⟨fun hlt => ?_, fun hge => ?_⟩
  · have hc := eq_cons hlt (by omega) hj
    refine ⟨fun he => ?_, fun he => ?_⟩
    · have := of_decide_eq_false (hc.1 he)
      refine endK.ret ?_ (by first | rfl | simp [belAll, V.bel, belObs, Ob.bel, belT, belP, bel_slI, bel_slL, bel_slP, bel_ints, bel_Ps, bel_Ls]); simp [evRes, getT, retV, Try.f25,  ← hne rfl (.inl this)]
    · refine ⟨j + 1, hc.2 he, by (try simp only); omega, ?_⟩; exact Gn.canon (by first | rfl | (simp [List.append_nil]; rfl)) (by simp [wk, slP, slL, slI]) (by simp [List.length_append]) (by simp [belAll, V.bel, belObs, Ob.bel, belT, belP, bel_slI, bel_slL, bel_slP, bel_ints, bel_Ps, bel_Ls]) (by simp [belAll, V.bel, belObs, Ob.bel, belT, belP, bel_slI, bel_slL, bel_slP, bel_ints, bel_Ps, bel_Ls])
  have e1 := of_decide_eq_true (eq_end (by omega) (by omega) hj)
  clear hge hj
  refine T.lp tok mixed cfg0 (fun (j : Nat) => dd 2 (kp 2 (dd 2 (sv (.int .i64 j) (dd 80 (nl)))))) (fun H0 (j : Nat) => H0) (fun (j : Nat) => decide (a.links.drop j = b.links.drop j) = decide (a.links = b.links)) (fun (j : Nat) => a.links.length - j) (0) ?_ ?_ ?_
  · rfl
  · exact Gn.canon (J := _) (by first | rfl | (simp [List.append_nil]; done) | (simp [List.append_nil]; rfl)) (by simp [wk, slP, slL, slI, putT, kp, dd, sv, nl]) (by simp [List.length_append]) (by simp [belAll, V.bel, belObs, Ob.bel, belT, belP, bel_slI, bel_slL, bel_slP, bel_ints, bel_Ps, bel_Ls, kp, dd, sv, nl]) (by simp [belAll, V.bel, belObs, Ob.bel, belT, belP, bel_slI, bel_slL, bel_slP, bel_ints, bel_Ps, bel_Ls])
  intro j hj
  simp (config := { maxSteps := 2000000 }) -implicitDefEqProofs +contextual (disch := first | assumption | omega | decide +kernel) only [push_cast, ↓capI, br2_true, br2_false, frk_tt, frk_tf, frk_f, frkD_tt, frkD_tf, frkD_f, pk2_true, pk2_false, imp_true, Nat.reduceAdd, Nat.reduceSub, Nat.reduceMul, Nat.reduceLeDiff, Nat.reduceLT, reduceCtorEq, ↓reduceIte, Nat.reduceEqDiff, Nat.reduceSub, Nat.reduceMul, Int.reduceNeg, Int.reduceLT, Int.reduceLE, Int.reduceAdd, Int.reduceSub, Int.reduceMul, Int.reduceEq, Int.reduceToNat, Nat.reduceDiv, Nat.reduceMod, Nat.reduceBEq, Nat.reduceBNe, reduceCtorEq, tt_26, tt_32, tt_22, tt_23, tt_24, tt_3, tt_4, tt_42, encT, encP, encL, slI, slP, slL, cfg0, get_flat_part lenP, get_flat_part lenL, get_flat_drop lenL, len_flat lenP, len_flat lenL, eqP, eqL, getI_nat]
  refine ⟨fun hlt => ?_, fun hge => ?_⟩
  · have hc := eq_cons hlt (by omega) hj
    refine ⟨fun he => ?_, fun he => ?_⟩
    · have := of_decide_eq_false (hc.1 he)
      refine endK.ret ?_ (by first | rfl | simp [belAll, V.bel, belObs, Ob.bel, belT, belP, bel_slI, bel_slL, bel_slP, bel_ints, bel_Ps, bel_Ls]); simp [evRes, getT, retV, Try.f25,  ← hne rfl (.inr (.inl this))]
    · refine ⟨j + 1, hc.2 he, by (try simp only); omega, ?_⟩; exact Gn.canon (by first | rfl | (simp [List.append_nil]; rfl)) (by simp [wk, slP, slL, slI]) (by simp [List.length_append]) (by simp [belAll, V.bel, belObs, Ob.bel, belT, belP, bel_slI, bel_slL, bel_slP, bel_ints, bel_Ps, bel_Ls]) (by simp [belAll, V.bel, belObs, Ob.bel, belT, belP, bel_slI, bel_slL, bel_slP, bel_ints, bel_Ps, bel_Ls])
  have e2 := of_decide_eq_true (eq_end (by omega) (by omega) hj)
  clear hge hj
  refine T.lp tok mixed cfg0 (fun (j : Nat) => dd 2 (kp 2 (dd 3 (sv (.int .i64 j) (dd 79 (nl)))))) (fun H0 (j : Nat) => H0) (fun (j : Nat) => decide (a.hosts.drop j = b.hosts.drop j) = decide (a.hosts = b.hosts)) (fun (j : Nat) => a.hosts.length - j) (0) ?_ ?_ ?_
  · rfl
  · exact Gn.canon (J := _) (by first | rfl | (simp [List.append_nil]; done) | (simp [List.append_nil]; rfl)) (by simp [wk, slP, slL, slI, putT, kp, dd, sv, nl]) (by simp [List.length_append]) (by simp [belAll, V.bel, belObs, Ob.bel, belT, belP, bel_slI, bel_slL, bel_slP, bel_ints, bel_Ps, bel_Ls, kp, dd, sv, nl]) (by simp [belAll, V.bel, belObs, Ob.bel, belT, belP, bel_slI, bel_slL, bel_slP, bel_ints, bel_Ps, bel_Ls])
  intro j hj
  simp (config := { maxSteps := 2000000 }) -implicitDefEqProofs +contextual (disch := first | assumption | omega | decide +kernel) only [push_cast, ↓capI, br2_true, br2_false, frk_tt, frk_tf, frk_f, frkD_tt, frkD_tf, frkD_f, pk2_true, pk2_false, imp_true, Nat.reduceAdd, Nat.reduceSub, Nat.reduceMul, Nat.reduceLeDiff, Nat.reduceLT, reduceCtorEq, ↓reduceIte, Nat.reduceEqDiff, Nat.reduceSub, Nat.reduceMul, Int.reduceNeg, Int.reduceLT, Int.reduceLE, Int.reduceAdd, Int.reduceSub, Int.reduceMul, Int.reduceEq, Int.reduceToNat, Nat.reduceDiv, Nat.reduceMod, Nat.reduceBEq, Nat.reduceBNe, reduceCtorEq, tt_26, tt_32, tt_22, tt_23, tt_24, tt_3, tt_4, tt_42, encT, encP, encL, slI, slP, slL, cfg0, get_flat_part lenP, get_flat_part lenL, get_flat_drop lenL, len_flat lenP, len_flat lenL, eqP, eqL, getI_nat]
  refine ⟨fun hlt => ?_, fun hge => ?_⟩
  · have hc := eq_cons hlt (by omega) hj
    refine ⟨fun he => ?_, fun he => ?_⟩
    · have := of_decide_eq_false (hc.1 he)
      refine endK.ret ?_ (by first | rfl | simp [belAll, V.bel, belObs, Ob.bel, belT, belP, bel_slI, bel_slL, bel_slP, bel_ints, bel_Ps, bel_Ls]); simp [evRes, getT, retV, Try.f25,  ← hne rfl (.inr (.inr this))]
    · refine ⟨j + 1, hc.2 he, by (try simp only); omega, ?_⟩; exact Gn.canon (by first | rfl | (simp [List.append_nil]; rfl)) (by simp [wk, slP, slL, slI]) (by simp [List.length_append]) (by simp [belAll, V.bel, belObs, Ob.bel, belT, belP, bel_slI, bel_slL, bel_slP, bel_ints, bel_Ps, bel_Ls]) (by simp [belAll, V.bel, belObs, Ob.bel, belT, belP, bel_slI, bel_slL, bel_slP, bel_ints, bel_Ps, bel_Ls])
  have e3 := of_decide_eq_true (eq_end (by omega) (by omega) hj)
  refine endK.ret ?_ (by first | rfl | simp [belAll, V.bel, belObs, Ob.bel, belT, belP, bel_slI, bel_slL, bel_slP, bel_ints, bel_Ps, bel_Ls]); simp [evRes, getT, retV, Try.f25,  Tp.ext' e1 e2 e3]
end Go.Proofs.Ytpjbeoilmmhinaa

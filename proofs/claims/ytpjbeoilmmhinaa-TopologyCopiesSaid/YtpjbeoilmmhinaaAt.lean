/-
  Chapter 40: the host and the link at a port.
-/
import Derived.Test.YtpjbeoilmmhinaaBase
set_option maxRecDepth 100000
set_option linter.all false
namespace Go.Proofs.Ytpjbeoilmmhinaa
open Go.Vm

theorem firstAt_cons {α : Type} {f : α → Bool} {l : List α} {j : Nat} {r : Int × Bool} (h : j < l.length) (hr : firstAt f (l.drop j) j = r) :
    (f l[j] = true → r = ((j : Int), true)) ∧ (f l[j] = false → firstAt f (l.drop (j + 1)) (j + 1) = r) := by
  rw [drop_cons h, firstAt] at hr
  cases hf : f l[j] with
  | true => rw [hf] at hr; exact ⟨fun _ => hr.symm, fun h => by simp at h⟩
  | false => rw [hf] at hr; exact ⟨fun h => by simp at h, fun _ => hr⟩
theorem firstAt_end {α : Type} {f : α → Bool} {l : List α} {j : Nat} {r : Int × Bool} (h : ¬ j < l.length) (hr : firstAt f (l.drop j) j = r) : r = (0, false) := by
  rw [List.drop_of_length_le (by omega)] at hr; exact hr.symm


theorem pc16 (t : Tp) (p : Int × Int) (hf : t.fit) : PC Try.prog 16 [.agg (encT t), .agg (encP p)] (encIB (hostAt t p)) := by
  have := hf.hosts
  refine PC.walk tok mixed cfg0 Try.func16 rfl Try.call16 (by simp [belAll, V.bel, belObs, Ob.bel, belT, belP, bel_slI, bel_slL, bel_slP, bel_ints, bel_Ps, bel_Ls]) (by first | rfl | simp [belAll, V.bel, belObs, Ob.bel, belT, belP, bel_slI, bel_slL, bel_slP, bel_ints, bel_Ps, bel_Ls]) ?_; simp (config := { maxSteps := 2000000 }) -implicitDefEqProofs +contextual (disch := first | assumption | omega | decide +kernel) only [push_cast, ↓capI, br2_true, br2_false, frk_tt, frk_tf, frk_f, frkD_tt, frkD_tf, frkD_f, pk2_true, pk2_false, imp_true, Nat.reduceAdd, Nat.reduceSub, Nat.reduceMul, Nat.reduceLeDiff, Nat.reduceLT, reduceCtorEq, ↓reduceIte, Nat.reduceEqDiff, Nat.reduceSub, Nat.reduceMul, Int.reduceNeg, Int.reduceLT, Int.reduceLE, Int.reduceAdd, Int.reduceSub, Int.reduceMul, Int.reduceEq, Int.reduceToNat, Nat.reduceDiv, Nat.reduceMod, Nat.reduceBEq, Nat.reduceBNe, reduceCtorEq, tt_26, tt_32, tt_22, tt_23, tt_24, tt_3, tt_4, tt_42, encT, encP, encL, slI, slP, slL, cfg0, get_flat_part lenP, get_flat_part lenL, get_flat_drop lenL, len_flat lenP, len_flat lenL, eqP, Try.ntmps16]
  refine T.lp tok mixed cfg0 (fun (j : Nat) => dd 2 (kp 2 (dd 2 (sv (.int .i64 j) (dd 15 (nl)))))) (fun H0 (j : Nat) => H0) (fun (j : Nat) => firstAt (fun h => decide (h = p)) (t.hosts.drop j) j = hostAt t p) (fun (j : Nat) => t.hosts.length - j) (0) ?_ ?_ ?_
  · rfl
  · exact Gn.canon (J := _) (by first | rfl | (simp [List.append_nil]; done) | (simp [List.append_nil]; rfl)) (by simp [wk, slP, slL, slI, putT, kp, dd, sv, nl]) (by simp [List.length_append]) (by simp [belAll, V.bel, belObs, Ob.bel, belT, belP, bel_slI, bel_slL, bel_slP, bel_ints, bel_Ps, bel_Ls, kp, dd, sv, nl]) (by simp [belAll, V.bel, belObs, Ob.bel, belT, belP, bel_slI, bel_slL, bel_slP, bel_ints, bel_Ps, bel_Ls])
  · intro j hj
    simp (config := { maxSteps := 2000000 }) -implicitDefEqProofs +contextual (disch := first | assumption | omega | decide +kernel) only [push_cast, ↓capI, br2_true, br2_false, frk_tt, frk_tf, frk_f, frkD_tt, frkD_tf, frkD_f, pk2_true, pk2_false, imp_true, Nat.reduceAdd, Nat.reduceSub, Nat.reduceMul, Nat.reduceLeDiff, Nat.reduceLT, reduceCtorEq, ↓reduceIte, Nat.reduceEqDiff, Nat.reduceSub, Nat.reduceMul, Int.reduceNeg, Int.reduceLT, Int.reduceLE, Int.reduceAdd, Int.reduceSub, Int.reduceMul, Int.reduceEq, Int.reduceToNat, Nat.reduceDiv, Nat.reduceMod, Nat.reduceBEq, Nat.reduceBNe, reduceCtorEq, tt_26, tt_32, tt_22, tt_23, tt_24, tt_3, tt_4, tt_42, encT, encP, encL, slI, slP, slL, cfg0, get_flat_part lenP, get_flat_part lenL, get_flat_drop lenL, len_flat lenP, len_flat lenL, eqP]
    refine ⟨fun hlt => ⟨fun he => ?_, fun hne => ?_⟩, fun hge => ?_⟩
    · have := (firstAt_cons hlt hj).1 (by simp [he])
      refine endK.ret ?_ (by first | rfl | simp [belAll, V.bel, belObs, Ob.bel, belT, belP, bel_slI, bel_slL, bel_slP, bel_ints, bel_Ps, bel_Ls]); simp [evRes, getT, retV, Try.f16,  this, encIB]
    · refine ⟨j + 1, (firstAt_cons hlt hj).2 (by simp [hne]), by (try simp only); omega, ?_⟩; exact Gn.canon (by first | rfl | (simp [List.append_nil]; rfl)) (by simp [wk, slP, slL, slI]) (by simp [List.length_append]) (by simp [belAll, V.bel, belObs, Ob.bel, belT, belP, bel_slI, bel_slL, bel_slP, bel_ints, bel_Ps, bel_Ls]) (by simp [belAll, V.bel, belObs, Ob.bel, belT, belP, bel_slI, bel_slL, bel_slP, bel_ints, bel_Ps, bel_Ls])
    · refine endK.ret ?_ (by first | rfl | simp [belAll, V.bel, belObs, Ob.bel, belT, belP, bel_slI, bel_slL, bel_slP, bel_ints, bel_Ps, bel_Ls]); simp [evRes, getT, retV, Try.f16,  firstAt_end (by omega) hj, encIB]

theorem pc15 (t : Tp) (p : Int × Int) (hf : t.fit) : PC Try.prog 15 [.agg (encT t), .agg (encP p)] (encIB (hostAt t p)) := by
  have := hf.hosts
  refine PC.walk tok mixed cfg0 Try.func15 rfl Try.call15 (by simp [belAll, V.bel, belObs, Ob.bel, belT, belP, bel_slI, bel_slL, bel_slP, bel_ints, bel_Ps, bel_Ls]) (by first | rfl | simp [belAll, V.bel, belObs, Ob.bel, belT, belP, bel_slI, bel_slL, bel_slP, bel_ints, bel_Ps, bel_Ls]) ?_; simp (config := { maxSteps := 2000000 }) -implicitDefEqProofs +contextual (disch := first | assumption | omega | decide +kernel) only [push_cast, ↓capI, br2_true, br2_false, frk_tt, frk_tf, frk_f, frkD_tt, frkD_tf, frkD_f, pk2_true, pk2_false, imp_true, Nat.reduceAdd, Nat.reduceSub, Nat.reduceMul, Nat.reduceLeDiff, Nat.reduceLT, reduceCtorEq, ↓reduceIte, Nat.reduceEqDiff, Nat.reduceSub, Nat.reduceMul, Int.reduceNeg, Int.reduceLT, Int.reduceLE, Int.reduceAdd, Int.reduceSub, Int.reduceMul, Int.reduceEq, Int.reduceToNat, Nat.reduceDiv, Nat.reduceMod, Nat.reduceBEq, Nat.reduceBNe, reduceCtorEq, tt_26, tt_32, tt_22, tt_23, tt_24, tt_3, tt_4, tt_42, encT, encP, encL, slI, slP, slL, cfg0, get_flat_part lenP, get_flat_part lenL, get_flat_drop lenL, len_flat lenP, len_flat lenL, eqP, Try.ntmps15]
  refine T.lp tok mixed cfg0 (fun (j : Nat) => dd 3 (kp 1 (dd 5 (kp 2 (sv (.int .i64 j) (dd 9 (nl))))))) (fun H0 (j : Nat) => H0) (fun (j : Nat) => firstAt (fun h => decide (h = p)) (t.hosts.drop j) j = hostAt t p) (fun (j : Nat) => t.hosts.length - j) (0) ?_ ?_ ?_
  · rfl
  · exact Gn.canon (J := _) (by first | rfl | (simp [List.append_nil]; done) | (simp [List.append_nil]; rfl)) (by simp [wk, slP, slL, slI, putT, kp, dd, sv, nl]) (by simp [List.length_append]) (by simp [belAll, V.bel, belObs, Ob.bel, belT, belP, bel_slI, bel_slL, bel_slP, bel_ints, bel_Ps, bel_Ls, kp, dd, sv, nl]) (by simp [belAll, V.bel, belObs, Ob.bel, belT, belP, bel_slI, bel_slL, bel_slP, bel_ints, bel_Ps, bel_Ls])
  · intro j hj
    simp (config := { maxSteps := 2000000 }) -implicitDefEqProofs +contextual (disch := first | assumption | omega | decide +kernel) only [push_cast, ↓capI, br2_true, br2_false, frk_tt, frk_tf, frk_f, frkD_tt, frkD_tf, frkD_f, pk2_true, pk2_false, imp_true, Nat.reduceAdd, Nat.reduceSub, Nat.reduceMul, Nat.reduceLeDiff, Nat.reduceLT, reduceCtorEq, ↓reduceIte, Nat.reduceEqDiff, Nat.reduceSub, Nat.reduceMul, Int.reduceNeg, Int.reduceLT, Int.reduceLE, Int.reduceAdd, Int.reduceSub, Int.reduceMul, Int.reduceEq, Int.reduceToNat, Nat.reduceDiv, Nat.reduceMod, Nat.reduceBEq, Nat.reduceBNe, reduceCtorEq, tt_26, tt_32, tt_22, tt_23, tt_24, tt_3, tt_4, tt_42, encT, encP, encL, slI, slP, slL, cfg0, get_flat_part lenP, get_flat_part lenL, get_flat_drop lenL, len_flat lenP, len_flat lenL, eqP]
    refine ⟨fun hlt => ⟨fun he => ?_, fun hne => ?_⟩, fun hge => ?_⟩
    · have := (firstAt_cons hlt hj).1 (by simp [he])
      refine endK.ret ?_ (by first | rfl | simp [belAll, V.bel, belObs, Ob.bel, belT, belP, bel_slI, bel_slL, bel_slP, bel_ints, bel_Ps, bel_Ls]); simp [evRes, getT, retV, Try.f15,  this, encIB]
    · refine ⟨j + 1, (firstAt_cons hlt hj).2 (by simp [hne]), by (try simp only); omega, ?_⟩; exact Gn.canon (by first | rfl | (simp [List.append_nil]; rfl)) (by simp [wk, slP, slL, slI]) (by simp [List.length_append]) (by simp [belAll, V.bel, belObs, Ob.bel, belT, belP, bel_slI, bel_slL, bel_slP, bel_ints, bel_Ps, bel_Ls]) (by simp [belAll, V.bel, belObs, Ob.bel, belT, belP, bel_slI, bel_slL, bel_slP, bel_ints, bel_Ps, bel_Ls])
    · refine endK.ret ?_ (by first | rfl | simp [belAll, V.bel, belObs, Ob.bel, belT, belP, bel_slI, bel_slL, bel_slP, bel_ints, bel_Ps, bel_Ls]); simp [evRes, getT, retV, Try.f15,  firstAt_end (by omega) hj, encIB]

theorem pc18 (t : Tp) (p : Int × Int) (hf : t.fit) : PC Try.prog 18 [.agg (encT t), .agg (encP p)] (encIB (linkAt t p)) := by
  have := hf.links
  refine PC.walk tok mixed cfg0 Try.func18 rfl Try.call18 (by simp [belAll, V.bel, belObs, Ob.bel, belT, belP, bel_slI, bel_slL, bel_slP, bel_ints, bel_Ps, bel_Ls]) (by first | rfl | simp [belAll, V.bel, belObs, Ob.bel, belT, belP, bel_slI, bel_slL, bel_slP, bel_ints, bel_Ps, bel_Ls]) ?_; simp (config := { maxSteps := 2000000 }) -implicitDefEqProofs +contextual (disch := first | assumption | omega | decide +kernel) only [push_cast, ↓capI, br2_true, br2_false, frk_tt, frk_tf, frk_f, frkD_tt, frkD_tf, frkD_f, pk2_true, pk2_false, imp_true, Nat.reduceAdd, Nat.reduceSub, Nat.reduceMul, Nat.reduceLeDiff, Nat.reduceLT, reduceCtorEq, ↓reduceIte, Nat.reduceEqDiff, Nat.reduceSub, Nat.reduceMul, Int.reduceNeg, Int.reduceLT, Int.reduceLE, Int.reduceAdd, Int.reduceSub, Int.reduceMul, Int.reduceEq, Int.reduceToNat, Nat.reduceDiv, Nat.reduceMod, Nat.reduceBEq, Nat.reduceBNe, reduceCtorEq, tt_26, tt_32, tt_22, tt_23, tt_24, tt_3, tt_4, tt_42, encT, encP, encL, slI, slP, slL, cfg0, get_flat_part lenP, get_flat_part lenL, get_flat_drop lenL, len_flat lenP, len_flat lenL, eqP, Try.ntmps18]
  refine T.lp tok mixed cfg0 (fun (j : Nat) => dd 2 (kp 2 (dd 2 (sv (.int .i64 j) (dd 26 (nl)))))) (fun H0 (j : Nat) => H0) (fun (j : Nat) => firstAt (fun l => decide (l.a = p) || decide (l.b = p)) (t.links.drop j) j = linkAt t p) (fun (j : Nat) => t.links.length - j) (0) ?_ ?_ ?_
  · rfl
  · exact Gn.canon (J := _) (by first | rfl | (simp [List.append_nil]; done) | (simp [List.append_nil]; rfl)) (by simp [wk, slP, slL, slI, putT, kp, dd, sv, nl]) (by simp [List.length_append]) (by simp [belAll, V.bel, belObs, Ob.bel, belT, belP, bel_slI, bel_slL, bel_slP, bel_ints, bel_Ps, bel_Ls, kp, dd, sv, nl]) (by simp [belAll, V.bel, belObs, Ob.bel, belT, belP, bel_slI, bel_slL, bel_slP, bel_ints, bel_Ps, bel_Ls])
  · intro j hj
    simp (config := { maxSteps := 2000000 }) -implicitDefEqProofs +contextual (disch := first | assumption | omega | decide +kernel) only [push_cast, ↓capI, br2_true, br2_false, frk_tt, frk_tf, frk_f, frkD_tt, frkD_tf, frkD_f, pk2_true, pk2_false, imp_true, Nat.reduceAdd, Nat.reduceSub, Nat.reduceMul, Nat.reduceLeDiff, Nat.reduceLT, reduceCtorEq, ↓reduceIte, Nat.reduceEqDiff, Nat.reduceSub, Nat.reduceMul, Int.reduceNeg, Int.reduceLT, Int.reduceLE, Int.reduceAdd, Int.reduceSub, Int.reduceMul, Int.reduceEq, Int.reduceToNat, Nat.reduceDiv, Nat.reduceMod, Nat.reduceBEq, Nat.reduceBNe, reduceCtorEq, tt_26, tt_32, tt_22, tt_23, tt_24, tt_3, tt_4, tt_42, encT, encP, encL, slI, slP, slL, cfg0, get_flat_part lenP, get_flat_part lenL, get_flat_drop lenL, len_flat lenP, len_flat lenL, eqP]
    refine ⟨fun hlt => ?_, fun hge => ?_⟩
    · have hc := firstAt_cons hlt hj
      repeat' (first | intro _ | refine And.intro ?_ ?_)
      all_goals first
        | (have := hc.1 (by simp [*])
           refine endK.ret ?_ (by first | rfl | simp [belAll, V.bel, belObs, Ob.bel, belT, belP, bel_slI, bel_slL, bel_slP, bel_ints, bel_Ps, bel_Ls]); simp [evRes, getT, retV, Try.f18,  this, encIB]
           done)
        | refine ⟨j + 1, hc.2 (by simp [*]), by (try simp only); omega, ?_⟩; exact Gn.canon (by first | rfl | (simp [List.append_nil]; rfl)) (by simp [wk, slP, slL, slI]) (by simp [List.length_append]) (by simp [belAll, V.bel, belObs, Ob.bel, belT, belP, bel_slI, bel_slL, bel_slP, bel_ints, bel_Ps, bel_Ls]) (by simp [belAll, V.bel, belObs, Ob.bel, belT, belP, bel_slI, bel_slL, bel_slP, bel_ints, bel_Ps, bel_Ls])
    · refine endK.ret ?_ (by first | rfl | simp [belAll, V.bel, belObs, Ob.bel, belT, belP, bel_slI, bel_slL, bel_slP, bel_ints, bel_Ps, bel_Ls]); simp [evRes, getT, retV, Try.f18,  firstAt_end (by omega) hj, encIB]

theorem pc17 (t : Tp) (p : Int × Int) (hf : t.fit) : PC Try.prog 17 [.agg (encT t), .agg (encP p)] (encIB (linkAt t p)) := by
  have := hf.links
  refine PC.walk tok mixed cfg0 Try.func17 rfl Try.call17 (by simp [belAll, V.bel, belObs, Ob.bel, belT, belP, bel_slI, bel_slL, bel_slP, bel_ints, bel_Ps, bel_Ls]) (by first | rfl | simp [belAll, V.bel, belObs, Ob.bel, belT, belP, bel_slI, bel_slL, bel_slP, bel_ints, bel_Ps, bel_Ls]) ?_; simp (config := { maxSteps := 2000000 }) -implicitDefEqProofs +contextual (disch := first | assumption | omega | decide +kernel) only [push_cast, ↓capI, br2_true, br2_false, frk_tt, frk_tf, frk_f, frkD_tt, frkD_tf, frkD_f, pk2_true, pk2_false, imp_true, Nat.reduceAdd, Nat.reduceSub, Nat.reduceMul, Nat.reduceLeDiff, Nat.reduceLT, reduceCtorEq, ↓reduceIte, Nat.reduceEqDiff, Nat.reduceSub, Nat.reduceMul, Int.reduceNeg, Int.reduceLT, Int.reduceLE, Int.reduceAdd, Int.reduceSub, Int.reduceMul, Int.reduceEq, Int.reduceToNat, Nat.reduceDiv, Nat.reduceMod, Nat.reduceBEq, Nat.reduceBNe, reduceCtorEq, tt_26, tt_32, tt_22, tt_23, tt_24, tt_3, tt_4, tt_42, encT, encP, encL, slI, slP, slL, cfg0, get_flat_part lenP, get_flat_part lenL, get_flat_drop lenL, len_flat lenP, len_flat lenL, eqP, Try.ntmps17]
  refine T.lp tok mixed cfg0 (fun (j : Nat) => dd 3 (kp 1 (dd 5 (kp 2 (sv (.int .i64 j) (dd 16 (nl))))))) (fun H0 (j : Nat) => H0) (fun (j : Nat) => firstAt (fun l => decide (l.a = p) || decide (l.b = p)) (t.links.drop j) j = linkAt t p) (fun (j : Nat) => t.links.length - j) (0) ?_ ?_ ?_
  · rfl
  · exact Gn.canon (J := _) (by first | rfl | (simp [List.append_nil]; done) | (simp [List.append_nil]; rfl)) (by simp [wk, slP, slL, slI, putT, kp, dd, sv, nl]) (by simp [List.length_append]) (by simp [belAll, V.bel, belObs, Ob.bel, belT, belP, bel_slI, bel_slL, bel_slP, bel_ints, bel_Ps, bel_Ls, kp, dd, sv, nl]) (by simp [belAll, V.bel, belObs, Ob.bel, belT, belP, bel_slI, bel_slL, bel_slP, bel_ints, bel_Ps, bel_Ls])
  · intro j hj
    simp (config := { maxSteps := 2000000 }) -implicitDefEqProofs +contextual (disch := first | assumption | omega | decide +kernel) only [push_cast, ↓capI, br2_true, br2_false, frk_tt, frk_tf, frk_f, frkD_tt, frkD_tf, frkD_f, pk2_true, pk2_false, imp_true, Nat.reduceAdd, Nat.reduceSub, Nat.reduceMul, Nat.reduceLeDiff, Nat.reduceLT, reduceCtorEq, ↓reduceIte, Nat.reduceEqDiff, Nat.reduceSub, Nat.reduceMul, Int.reduceNeg, Int.reduceLT, Int.reduceLE, Int.reduceAdd, Int.reduceSub, Int.reduceMul, Int.reduceEq, Int.reduceToNat, Nat.reduceDiv, Nat.reduceMod, Nat.reduceBEq, Nat.reduceBNe, reduceCtorEq, tt_26, tt_32, tt_22, tt_23, tt_24, tt_3, tt_4, tt_42, encT, encP, encL, slI, slP, slL, cfg0, get_flat_part lenP, get_flat_part lenL, get_flat_drop lenL, len_flat lenP, len_flat lenL, eqP]
    refine ⟨fun hlt => ?_, fun hge => ?_⟩
    · have hc := firstAt_cons hlt hj
      repeat' (first | intro _ | refine And.intro ?_ ?_)
      all_goals first
        | (have := hc.1 (by simp [*])
           refine endK.ret ?_ (by first | rfl | simp [belAll, V.bel, belObs, Ob.bel, belT, belP, bel_slI, bel_slL, bel_slP, bel_ints, bel_Ps, bel_Ls]); simp [evRes, getT, retV, Try.f17,  this, encIB]
           done)
        | refine ⟨j + 1, hc.2 (by simp [*]), by (try simp only); omega, ?_⟩; exact Gn.canon (by first | rfl | (simp [List.append_nil]; rfl)) (by simp [wk, slP, slL, slI]) (by simp [List.length_append]) (by simp [belAll, V.bel, belObs, Ob.bel, belT, belP, bel_slI, bel_slL, bel_slP, bel_ints, bel_Ps, bel_Ls]) (by simp [belAll, V.bel, belObs, Ob.bel, belT, belP, bel_slI, bel_slL, bel_slP, bel_ints, bel_Ps, bel_Ls])
    · refine endK.ret ?_ (by first | rfl | simp [belAll, V.bel, belObs, Ob.bel, belT, belP, bel_slI, bel_slL, bel_slP, bel_ints, bel_Ps, bel_Ls]); simp [evRes, getT, retV, Try.f17,  firstAt_end (by omega) hj, encIB]
end Go.Proofs.Ytpjbeoilmmhinaa

/-
  Chapter 40: equal lists, membership, linked switches, equal topologies.
-/
import Derived.Test.YtpjbeoilmmhinaaCheck2
set_option maxRecDepth 100000
set_option linter.all false
namespace Go.Proofs.Ytpjbeoilmmhinaa
open Go.Vm

theorem eq_cons {α : Type} [DecidableEq α] {a b : List α} {j : Nat} (ha : j < a.length) (hb : j < b.length) {q : Bool} (h : decide (a.drop j = b.drop j) = q) :
    (a[j] ≠ b[j] → q = false) ∧ (a[j] = b[j] → decide (a.drop (j + 1) = b.drop (j + 1)) = q) := by
  have e : (a.drop j = b.drop j) ↔ (a[j] = b[j] ∧ a.drop (j + 1) = b.drop (j + 1)) := by rw [drop_cons ha, drop_cons hb, List.cons.injEq]
  cases q with
  | true =>
    have h := e.1 (of_decide_eq_true h)
    exact ⟨fun hn => absurd h.1 hn, fun _ => decide_eq_true h.2⟩
  | false =>
    have h := of_decide_eq_false h
    exact ⟨fun _ => rfl, fun h1 => decide_eq_false fun h2 => h (e.2 ⟨h1, h2⟩)⟩
theorem eq_end {α : Type} [DecidableEq α] {a b : List α} {j : Nat} (ha : a.length ≤ j) (hb : b.length ≤ j) {q : Bool} (h : decide (a.drop j = b.drop j) = q) : q = true := by
  rw [List.drop_of_length_le ha, List.drop_of_length_le hb] at h
  simpa using h.symm

theorem pc21 (a b : List Int) (hf : a.length ≤ 4000000000000000000) : PC Try.prog 21 [slI a, slI b] (.bool (decide (a = b))) := by
  refine PC.walk tok mixed cfg0 Try.func21 rfl Try.call21 (by simp [belAll, V.bel, belObs, Ob.bel, belT, belP, bel_slI, bel_slL, bel_slP, bel_ints, bel_Ps, bel_Ls]) (by first | rfl | simp [belAll, V.bel, belObs, Ob.bel, belT, belP, bel_slI, bel_slL, bel_slP, bel_ints, bel_Ps, bel_Ls]) ?_; simp (config := { maxSteps := 2000000 }) -implicitDefEqProofs +contextual (disch := first | assumption | omega | decide +kernel) only [push_cast, ↓capI, br2_true, br2_false, frk_tt, frk_tf, frk_f, frkD_tt, frkD_tf, frkD_f, pk2_true, pk2_false, imp_true, Nat.reduceAdd, Nat.reduceSub, Nat.reduceMul, Nat.reduceLeDiff, Nat.reduceLT, reduceCtorEq, ↓reduceIte, Nat.reduceEqDiff, Nat.reduceSub, Nat.reduceMul, Int.reduceNeg, Int.reduceLT, Int.reduceLE, Int.reduceAdd, Int.reduceSub, Int.reduceMul, Int.reduceEq, Int.reduceToNat, Nat.reduceDiv, Nat.reduceMod, Nat.reduceBEq, Nat.reduceBNe, reduceCtorEq, tt_26, tt_32, tt_22, tt_23, tt_24, tt_3, tt_4, tt_42, encT, encP, encL, slI, slP, slL, cfg0, get_flat_part lenP, get_flat_part lenL, get_flat_drop lenL, len_flat lenP, len_flat lenL, eqP, getI_nat, Try.ntmps21]
  refine ⟨fun hl => ?_, fun hl => ?_⟩
  · have : a ≠ b := fun h => by simp [h] at hl
    refine endK.ret ?_ (by first | rfl | simp [belAll, V.bel, belObs, Ob.bel, belT, belP, bel_slI, bel_slL, bel_slP, bel_ints, bel_Ps, bel_Ls]); simp [evRes, getT, retV, Try.f21,  this]
  · have hl : a.length = b.length := by omega
    refine T.lp tok mixed cfg0 (fun (j : Nat) => kp 2 (dd 3 (sv (.int .i64 j) (dd 20 (nl))))) (fun H0 (j : Nat) => H0) (fun (j : Nat) => j ≤ a.length ∧ decide (a.drop j = b.drop j) = decide (a = b)) (fun (j : Nat) => a.length - j) (0) ?_ ?_ ?_
    · exact ⟨Nat.zero_le _, rfl⟩
    · exact Gn.canon (J := _) (by first | rfl | (simp [List.append_nil]; done) | (simp [List.append_nil]; rfl)) (by simp [wk, slP, slL, slI, putT, kp, dd, sv, nl]) (by simp [List.length_append]) (by simp [belAll, V.bel, belObs, Ob.bel, belT, belP, bel_slI, bel_slL, bel_slP, bel_ints, bel_Ps, bel_Ls, kp, dd, sv, nl]) (by simp [belAll, V.bel, belObs, Ob.bel, belT, belP, bel_slI, bel_slL, bel_slP, bel_ints, bel_Ps, bel_Ls])
    · rintro j ⟨hle, hj⟩
      simp (config := { maxSteps := 2000000 }) -implicitDefEqProofs +contextual (disch := first | assumption | omega | decide +kernel) only [push_cast, ↓capI, br2_true, br2_false, frk_tt, frk_tf, frk_f, frkD_tt, frkD_tf, frkD_f, pk2_true, pk2_false, imp_true, Nat.reduceAdd, Nat.reduceSub, Nat.reduceMul, Nat.reduceLeDiff, Nat.reduceLT, reduceCtorEq, ↓reduceIte, Nat.reduceEqDiff, Nat.reduceSub, Nat.reduceMul, Int.reduceNeg, Int.reduceLT, Int.reduceLE, Int.reduceAdd, Int.reduceSub, Int.reduceMul, Int.reduceEq, Int.reduceToNat, Nat.reduceDiv, Nat.reduceMod, Nat.reduceBEq, Nat.reduceBNe, reduceCtorEq, tt_26, tt_32, tt_22, tt_23, tt_24, tt_3, tt_4, tt_42, encT, encP, encL, slI, slP, slL, cfg0, get_flat_part lenP, get_flat_part lenL, get_flat_drop lenL, len_flat lenP, len_flat lenL, eqP, getI_nat]
      refine ⟨fun hlt => ?_, fun hge => ?_⟩
      · have hc := eq_cons hlt (by omega) hj
        refine ⟨fun he => ?_, fun he => ?_⟩
        · refine endK.ret ?_ (by first | rfl | simp [belAll, V.bel, belObs, Ob.bel, belT, belP, bel_slI, bel_slL, bel_slP, bel_ints, bel_Ps, bel_Ls]); simp [evRes, getT, retV, Try.f21,  hc.1 he]
        · refine ⟨j + 1, ⟨by omega, hc.2 he⟩, by (try simp only); omega, ?_⟩; exact Gn.canon (by first | rfl | (simp [List.append_nil]; rfl)) (by simp [wk, slP, slL, slI]) (by simp [List.length_append]) (by simp [belAll, V.bel, belObs, Ob.bel, belT, belP, bel_slI, bel_slL, bel_slP, bel_ints, bel_Ps, bel_Ls]) (by simp [belAll, V.bel, belObs, Ob.bel, belT, belP, bel_slI, bel_slL, bel_slP, bel_ints, bel_Ps, bel_Ls])
      · refine endK.ret ?_ (by first | rfl | simp [belAll, V.bel, belObs, Ob.bel, belT, belP, bel_slI, bel_slL, bel_slP, bel_ints, bel_Ps, bel_Ls]); simp [evRes, getT, retV, Try.f21,  eq_end (by omega) (by omega) hj]

theorem pc22 (a : List Int) (x : Int) (hf : a.length ≤ 4000000000000000000) : PC Try.prog 22 [slI a, .int .i64 x] (.bool (a.any fun y => decide (y = x))) := by
  refine PC.walk tok mixed cfg0 Try.func22 rfl Try.call22 (by simp [belAll, V.bel, belObs, Ob.bel, belT, belP, bel_slI, bel_slL, bel_slP, bel_ints, bel_Ps, bel_Ls]) (by first | rfl | simp [belAll, V.bel, belObs, Ob.bel, belT, belP, bel_slI, bel_slL, bel_slP, bel_ints, bel_Ps, bel_Ls]) ?_; simp (config := { maxSteps := 2000000 }) -implicitDefEqProofs +contextual (disch := first | assumption | omega | decide +kernel) only [push_cast, ↓capI, br2_true, br2_false, frk_tt, frk_tf, frk_f, frkD_tt, frkD_tf, frkD_f, pk2_true, pk2_false, imp_true, Nat.reduceAdd, Nat.reduceSub, Nat.reduceMul, Nat.reduceLeDiff, Nat.reduceLT, reduceCtorEq, ↓reduceIte, Nat.reduceEqDiff, Nat.reduceSub, Nat.reduceMul, Int.reduceNeg, Int.reduceLT, Int.reduceLE, Int.reduceAdd, Int.reduceSub, Int.reduceMul, Int.reduceEq, Int.reduceToNat, Nat.reduceDiv, Nat.reduceMod, Nat.reduceBEq, Nat.reduceBNe, reduceCtorEq, tt_26, tt_32, tt_22, tt_23, tt_24, tt_3, tt_4, tt_42, encT, encP, encL, slI, slP, slL, cfg0, get_flat_part lenP, get_flat_part lenL, get_flat_drop lenL, len_flat lenP, len_flat lenL, eqP, getI_nat, Try.ntmps22]
  refine T.lp tok mixed cfg0 (fun (j : Nat) => kp 2 (dd 3 (sv (.int .i64 j) (dd 12 (nl))))) (fun H0 (j : Nat) => H0) (fun (j : Nat) => (a.drop j).any (fun y => decide (y = x)) = a.any (fun y => decide (y = x))) (fun (j : Nat) => a.length - j) (0) ?_ ?_ ?_
  · rfl
  · exact Gn.canon (J := _) (by first | rfl | (simp [List.append_nil]; done) | (simp [List.append_nil]; rfl)) (by simp [wk, slP, slL, slI, putT, kp, dd, sv, nl]) (by simp [List.length_append]) (by simp [belAll, V.bel, belObs, Ob.bel, belT, belP, bel_slI, bel_slL, bel_slP, bel_ints, bel_Ps, bel_Ls, kp, dd, sv, nl]) (by simp [belAll, V.bel, belObs, Ob.bel, belT, belP, bel_slI, bel_slL, bel_slP, bel_ints, bel_Ps, bel_Ls])
  · intro j hj
    simp (config := { maxSteps := 2000000 }) -implicitDefEqProofs +contextual (disch := first | assumption | omega | decide +kernel) only [push_cast, ↓capI, br2_true, br2_false, frk_tt, frk_tf, frk_f, frkD_tt, frkD_tf, frkD_f, pk2_true, pk2_false, imp_true, Nat.reduceAdd, Nat.reduceSub, Nat.reduceMul, Nat.reduceLeDiff, Nat.reduceLT, reduceCtorEq, ↓reduceIte, Nat.reduceEqDiff, Nat.reduceSub, Nat.reduceMul, Int.reduceNeg, Int.reduceLT, Int.reduceLE, Int.reduceAdd, Int.reduceSub, Int.reduceMul, Int.reduceEq, Int.reduceToNat, Nat.reduceDiv, Nat.reduceMod, Nat.reduceBEq, Nat.reduceBNe, reduceCtorEq, tt_26, tt_32, tt_22, tt_23, tt_24, tt_3, tt_4, tt_42, encT, encP, encL, slI, slP, slL, cfg0, get_flat_part lenP, get_flat_part lenL, get_flat_drop lenL, len_flat lenP, len_flat lenL, eqP, getI_nat]
    refine ⟨fun hlt => ?_, fun hge => ?_⟩
    · have hc := any_cons hlt hj
      refine ⟨fun he => ?_, fun he => ?_⟩
      · have := hc.1 (by simp [he])
        refine endK.ret ?_ (by first | rfl | simp [belAll, V.bel, belObs, Ob.bel, belT, belP, bel_slI, bel_slL, bel_slP, bel_ints, bel_Ps, bel_Ls]); simp [evRes, getT, retV, Try.f22,  this]
      · refine ⟨j + 1, hc.2 (by simp [he]), by (try simp only); omega, ?_⟩; exact Gn.canon (by first | rfl | (simp [List.append_nil]; rfl)) (by simp [wk, slP, slL, slI]) (by simp [List.length_append]) (by simp [belAll, V.bel, belObs, Ob.bel, belT, belP, bel_slI, bel_slL, bel_slP, bel_ints, bel_Ps, bel_Ls]) (by simp [belAll, V.bel, belObs, Ob.bel, belT, belP, bel_slI, bel_slL, bel_slP, bel_ints, bel_Ps, bel_Ls])
    · refine endK.ret ?_ (by first | rfl | simp [belAll, V.bel, belObs, Ob.bel, belT, belP, bel_slI, bel_slL, bel_slP, bel_ints, bel_Ps, bel_Ls]); simp [evRes, getT, retV, Try.f22,  any_end (by omega) hj]

def lnk (a b : Int) (l : Lk) : Bool := !l.dn && (decide (l.a.1 = a) && decide (l.b.1 = b) || decide (l.b.1 = a) && decide (l.a.1 = b))
theorem pc33 (t : Tp) (a b : Int) (hf : t.fit) : PC Try.prog 33 [.agg (encT t), .int .i64 a, .int .i64 b] (.bool (t.links.any (lnk a b))) := by
  have := hf.links
  refine PC.walk tok mixed cfg0 Try.func33 rfl Try.call33 (by simp [belAll, V.bel, belObs, Ob.bel, belT, belP, bel_slI, bel_slL, bel_slP, bel_ints, bel_Ps, bel_Ls]) (by first | rfl | simp [belAll, V.bel, belObs, Ob.bel, belT, belP, bel_slI, bel_slL, bel_slP, bel_ints, bel_Ps, bel_Ls]) ?_; simp (config := { maxSteps := 2000000 }) -implicitDefEqProofs +contextual (disch := first | assumption | omega | decide +kernel) only [push_cast, ↓capI, br2_true, br2_false, frk_tt, frk_tf, frk_f, frkD_tt, frkD_tf, frkD_f, pk2_true, pk2_false, imp_true, Nat.reduceAdd, Nat.reduceSub, Nat.reduceMul, Nat.reduceLeDiff, Nat.reduceLT, reduceCtorEq, ↓reduceIte, Nat.reduceEqDiff, Nat.reduceSub, Nat.reduceMul, Int.reduceNeg, Int.reduceLT, Int.reduceLE, Int.reduceAdd, Int.reduceSub, Int.reduceMul, Int.reduceEq, Int.reduceToNat, Nat.reduceDiv, Nat.reduceMod, Nat.reduceBEq, Nat.reduceBNe, reduceCtorEq, tt_26, tt_32, tt_22, tt_23, tt_24, tt_3, tt_4, tt_42, encT, encP, encL, slI, slP, slL, cfg0, get_flat_part lenP, get_flat_part lenL, get_flat_drop lenL, len_flat lenP, len_flat lenL, eqP, getI_nat, Try.ntmps33]
  refine T.lp tok mixed cfg0 (fun (j : Nat) => dd 1 (kp 3 (dd 3 (sv (.int .i64 j) (dd 44 (nl)))))) (fun H0 (j : Nat) => H0) (fun (j : Nat) => (t.links.drop j).any (lnk a b) = t.links.any (lnk a b)) (fun (j : Nat) => t.links.length - j) (0) ?_ ?_ ?_
  · rfl
  · exact Gn.canon (J := _) (by first | rfl | (simp [List.append_nil]; done) | (simp [List.append_nil]; rfl)) (by simp [wk, slP, slL, slI, putT, kp, dd, sv, nl]) (by simp [List.length_append]) (by simp [belAll, V.bel, belObs, Ob.bel, belT, belP, bel_slI, bel_slL, bel_slP, bel_ints, bel_Ps, bel_Ls, kp, dd, sv, nl]) (by simp [belAll, V.bel, belObs, Ob.bel, belT, belP, bel_slI, bel_slL, bel_slP, bel_ints, bel_Ps, bel_Ls])
  · intro j hj
    simp (config := { maxSteps := 2000000 }) -implicitDefEqProofs +contextual (disch := first | assumption | omega | decide +kernel) only [push_cast, ↓capI, br2_true, br2_false, frk_tt, frk_tf, frk_f, frkD_tt, frkD_tf, frkD_f, pk2_true, pk2_false, imp_true, Nat.reduceAdd, Nat.reduceSub, Nat.reduceMul, Nat.reduceLeDiff, Nat.reduceLT, reduceCtorEq, ↓reduceIte, Nat.reduceEqDiff, Nat.reduceSub, Nat.reduceMul, Int.reduceNeg, Int.reduceLT, Int.reduceLE, Int.reduceAdd, Int.reduceSub, Int.reduceMul, Int.reduceEq, Int.reduceToNat, Nat.reduceDiv, Nat.reduceMod, Nat.reduceBEq, Nat.reduceBNe, reduceCtorEq, tt_26, tt_32, tt_22, tt_23, tt_24, tt_3, tt_4, tt_42, encT, encP, encL, slI, slP, slL, cfg0, get_flat_part lenP, get_flat_part lenL, get_flat_drop lenL, len_flat lenP, len_flat lenL, eqP, getI_nat]
    refine ⟨fun hlt => ?_, fun hge => ?_⟩
    · have hc := any_cons hlt hj
      repeat' (first | intro _ | refine And.intro ?_ ?_)
      all_goals first
        | (have := hc.1 (by first | (simp [lnk, *]; done) | simp_all [lnk])
           refine endK.ret ?_ (by first | rfl | simp [belAll, V.bel, belObs, Ob.bel, belT, belP, bel_slI, bel_slL, bel_slP, bel_ints, bel_Ps, bel_Ls]); simp [evRes, getT, retV, Try.f33,  this]
           done)
        | refine ⟨j + 1, hc.2 (by first | (simp [lnk, *]; done) | simp_all [lnk]), by (try simp only); omega, ?_⟩; exact Gn.canon (by first | rfl | (simp [List.append_nil]; rfl)) (by simp [wk, slP, slL, slI]) (by simp [List.length_append]) (by simp [belAll, V.bel, belObs, Ob.bel, belT, belP, bel_slI, bel_slL, bel_slP, bel_ints, bel_Ps, bel_Ls]) (by simp [belAll, V.bel, belObs, Ob.bel, belT, belP, bel_slI, bel_slL, bel_slP, bel_ints, bel_Ps, bel_Ls])
    · refine endK.ret ?_ (by first | rfl | simp [belAll, V.bel, belObs, Ob.bel, belT, belP, bel_slI, bel_slL, bel_slP, bel_ints, bel_Ps, bel_Ls]); simp [evRes, getT, retV, Try.f33,  any_end (by omega) hj]
end Go.Proofs.Ytpjbeoilmmhinaa

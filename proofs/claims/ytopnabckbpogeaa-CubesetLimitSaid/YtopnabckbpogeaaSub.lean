/-
  Chapter 7: the difference of two cubes, in plain words; the reference's.
-/
import Derived.Test.YtopnabckbpogeaaBits
set_option maxRecDepth 100000
set_option maxHeartbeats 4000000
set_option linter.all false
namespace Go.Proofs.Ytopnabckbpogeaa
open Go.Vm

def bit (i : Nat) : W64 := 1#64 <<< i
theorem bit_at {i j : Nat} (hj : j < 64) : (bit i).getLsbD j = decide (i = j) := by
  simp only [bit, BitVec.getLsbD_shiftLeft, BitVec.getLsbD_one]
  by_cases h : i = j
  · subst h; simp [hj]
  · rw [decide_eq_false h]
    simp
    omega
theorem shl_bit {k : Nat} : ishl .u64 1 (k : Int) = ((bit k).toNat : Int) := w_shl (x := 1#64) (k := k)
theorem and_bit {x : W64} {i : Nat} (hi : i < 64) : x &&& bit i = 0#64 ↔ x.getLsbD i = false := by
  constructor
  · intro h
    have := congrArg (fun z => z.getLsbD i) h
    simp only [BitVec.getLsbD_and, BitVec.getLsbD_or, BitVec.getLsbD_not, BitVec.getLsbD_zero, BitVec.getLsbD_xor, decide_true, Bool.true_and, bit_at hi, Bool.and_true] at this
    exact this
  · intro h
    refine bit_ext fun j hj => ?_
    simp only [BitVec.getLsbD_and, BitVec.getLsbD_or, BitVec.getLsbD_not, BitVec.getLsbD_zero, BitVec.getLsbD_xor, decide_true, Bool.true_and, bit_at hj]
    by_cases e : i = j
    · subst e; simp [h]
    · simp [e]
def nextR (b r : Cu) (i : Nat) : Cu := ⟨r.v ||| (b.v &&& bit i), r.m ||| bit i⟩
def piece (b r : Cu) (i : Nat) : Cu := ⟨r.v ||| (~~~ b.v &&& bit i), r.m ||| bit i⟩
def subGo (b : Cu) : Nat → Cu → List Cu
  | 0, _ => []
  | i + 1, r => if (b.m.getLsbD i && !r.m.getLsbD i) = true then piece b r i :: subGo b i (nextR b r i) else subGo b i r
def cutC (c : Cu) (w : Nat) : Cu := ⟨c.v &&& (c.m &&& low w), c.m &&& low w⟩
def subL (a b : Cu) (w : Int) : List Cu :=
  if okW w = true then (if (meet (cutC a w.toNat) (cutC b w.toNat)).2 = true then subGo (cutC b w.toNat) w.toNat (cutC a w.toNat) else [cutC a w.toNat]) else []
theorem not_bit {x : W64} {i : Nat} : (x &&& bit i) ^^^ bit i = ~~~ x &&& bit i := by
  refine bit_ext fun j hj => ?_
  simp only [BitVec.getLsbD_and, BitVec.getLsbD_or, BitVec.getLsbD_not, BitVec.getLsbD_zero, BitVec.getLsbD_xor, decide_true, Bool.true_and, bit_at hj, hj]
  generalize x.getLsbD j = a
  generalize decide (i = j) = b
  revert a b
  decide
theorem subGo_sub {b : Cu} : ∀ {i : Nat} {r : Cu}, i ≤ 64 → b.m &&& ~~~ r.m = 0#64 → subGo b i r = []
  | 0, _, _, _ => rfl
  | i + 1, r, hi, h => by
    have := congrArg (fun z => z.getLsbD i) h
    simp only [BitVec.getLsbD_and, BitVec.getLsbD_or, BitVec.getLsbD_not, BitVec.getLsbD_zero, BitVec.getLsbD_xor, decide_true, Bool.true_and, show i < 64 by omega] at this
    unfold subGo
    rw [if_neg (by simp only [Bool.and_eq_true, Bool.not_eq_true']; intro ⟨h1, h2⟩; rw [h1, h2] at this; simp at this)]
    exact subGo_sub (by omega) h
theorem sub_meet {a b : Cu} (h : sub a b = true) : (meet a b).2 = true := by
  simp only [sub, Bool.and_eq_true, decide_eq_true_eq] at h
  have : (a.v ^^^ b.v) &&& a.m &&& b.m = 0#64 := by
    rw [BitVec.and_assoc, BitVec.and_comm a.m, ← BitVec.and_assoc, h.2, BitVec.zero_and]
  simp [meet, this]
theorem subGo_len {b : Cu} : ∀ {i : Nat} {r : Cu}, (subGo b i r).length ≤ i
  | 0, _ => Nat.le_refl _
  | i + 1, r => by
    unfold subGo
    split
    · simp only [List.length_cons]; have := @subGo_len b i (nextR b r i); omega
    · have := @subGo_len b i r; omega
theorem subL_len {a b : Cu} {w : Int} : (subL a b w).length ≤ 64 := by
  unfold subL
  split
  · rename_i h
    simp only [okW, Bool.and_eq_true, decide_eq_true_eq] at h
    split
    · have := @subGo_len (cutC b w.toNat) w.toNat (cutC a w.toNat); omega
    · simp
  · simp
theorem okW_nat {w : Int} (h : okW w = true) : ∃ k : Nat, w = k ∧ 1 ≤ k ∧ k ≤ 64 := by
  simp only [okW, Bool.and_eq_true, decide_eq_true_eq] at h
  exact ⟨w.toNat, by omega, by omega, by omega⟩

theorem pc31 (a b : Cu) (w : Int) : PC Try.prog 31 [.agg (encC a), .agg (encC b), .int .i64 w] (slC (subL a b w)) := by
  by_cases hw : okW w = true
  case neg =>
    have hw' : w < 1 ∨ 64 < w := by
      simp only [okW, Bool.and_eq_true, decide_eq_true_eq] at hw
      omega
    have e : subL a b w = [] := by simp [subL, hw]
    rw [e]
    refine PC.laxr (v := .sl true [] 0) ?_
    refine PC.walk tok mixed cfg0 Try.func31 rfl Try.call31 (by simp [bel_int, bel_bool, bel_str, bel_nilp, bel_nili, bel_nilf, bel_nilm, bel_dead, bel_agg, bel_tup, bel_sl, bel_fp, bel_buf, bel_ptr, bel_mp, bel_ifc, bel_fn, bel_opt, belAll_nil, belAll_cons, belO_cells, belO_dead, belO_unborn, belObs_nil, belObs_cons, belObs_append, belAll_tab, belObs_tab, belObs_tabN, belC, bel_Cs, bel_slC, belAll_append]) (by first | rfl | simp [bel_int, bel_bool, bel_str, bel_nilp, bel_nili, bel_nilf, bel_nilm, bel_dead, bel_agg, bel_tup, bel_sl, bel_fp, bel_buf, bel_ptr, bel_mp, bel_ifc, bel_fn, bel_opt, belAll_nil, belAll_cons, belO_cells, belO_dead, belO_unborn, belObs_nil, belObs_cons, belObs_append, belAll_tab, belObs_tab, belObs_tabN, belC, bel_Cs, bel_slC, belAll_append]) ?_; simp (config := { maxSteps := 2000000 }) -implicitDefEqProofs +contextual (disch := first | assumption | omega | decide +kernel) only [push_cast, ↓capI, br2_true, br2_false, frk_tt, frk_tf, frk_f, frkD_tt, frkD_tf, frkD_f, pk2_true, pk2_false, imp_true, Nat.reduceAdd, Nat.reduceSub, Nat.reduceMul, Nat.reduceLeDiff, Nat.reduceLT, reduceCtorEq, ↓reduceIte, Nat.reduceEqDiff, Nat.reduceSub, Nat.reduceMul, Int.reduceNeg, Int.reduceLT, Int.reduceLE, Int.reduceAdd, Int.reduceSub, Int.reduceMul, Int.reduceEq, Int.reduceToNat, Nat.reduceDiv, Nat.reduceMod, Nat.reduceBEq, Nat.reduceBNe, reduceCtorEq, tt_25, tt_23, tt_3, tt_4, tt_5, tt_26, tt_36, tt_38, tt_9, encC, cfg0, ib_and, ib_or, ib_xor, ib_andNot, ib_not, w_ofInt, w_eqb, w_eqb0, w_inj, w_zero, w_wrap, BitVec.reduceOfInt, shl_bit, and_bit, Try.ntmps31]
    rcases hw' with h | h
    · simp (config := { maxSteps := 2000000 }) -implicitDefEqProofs +contextual (disch := first | assumption | omega | decide +kernel) only [push_cast, ↓capI, br2_true, br2_false, frk_tt, frk_tf, frk_f, frkD_tt, frkD_tf, frkD_f, pk2_true, pk2_false, imp_true, Nat.reduceAdd, Nat.reduceSub, Nat.reduceMul, Nat.reduceLeDiff, Nat.reduceLT, reduceCtorEq, ↓reduceIte, Nat.reduceEqDiff, Nat.reduceSub, Nat.reduceMul, Int.reduceNeg, Int.reduceLT, Int.reduceLE, Int.reduceAdd, Int.reduceSub, Int.reduceMul, Int.reduceEq, Int.reduceToNat, Nat.reduceDiv, Nat.reduceMod, Nat.reduceBEq, Nat.reduceBNe, reduceCtorEq, tt_25, tt_23, tt_3, tt_4, tt_5, tt_26, tt_36, tt_38, tt_9, encC, cfg0, ib_and, ib_or, ib_xor, ib_andNot, ib_not, w_ofInt, w_eqb, w_eqb0, w_inj, w_zero, w_wrap, BitVec.reduceOfInt, shl_bit, and_bit, h]
      refine endK.ret ?_ (by first | rfl | simp [bel_int, bel_bool, bel_str, bel_nilp, bel_nili, bel_nilf, bel_nilm, bel_dead, bel_agg, bel_tup, bel_sl, bel_fp, bel_buf, bel_ptr, bel_mp, bel_ifc, bel_fn, bel_opt, belAll_nil, belAll_cons, belO_cells, belO_dead, belO_unborn, belObs_nil, belObs_cons, belObs_append, belAll_tab, belObs_tab, belObs_tabN, belC, bel_Cs, bel_slC, belAll_append]); simp [evRes, getT, retV, Try.f31]
    · simp (config := { maxSteps := 2000000 }) -implicitDefEqProofs +contextual (disch := first | assumption | omega | decide +kernel) only [push_cast, ↓capI, br2_true, br2_false, frk_tt, frk_tf, frk_f, frkD_tt, frkD_tf, frkD_f, pk2_true, pk2_false, imp_true, Nat.reduceAdd, Nat.reduceSub, Nat.reduceMul, Nat.reduceLeDiff, Nat.reduceLT, reduceCtorEq, ↓reduceIte, Nat.reduceEqDiff, Nat.reduceSub, Nat.reduceMul, Int.reduceNeg, Int.reduceLT, Int.reduceLE, Int.reduceAdd, Int.reduceSub, Int.reduceMul, Int.reduceEq, Int.reduceToNat, Nat.reduceDiv, Nat.reduceMod, Nat.reduceBEq, Nat.reduceBNe, reduceCtorEq, tt_25, tt_23, tt_3, tt_4, tt_5, tt_26, tt_36, tt_38, tt_9, encC, cfg0, ib_and, ib_or, ib_xor, ib_andNot, ib_not, w_ofInt, w_eqb, w_eqb0, w_inj, w_zero, w_wrap, BitVec.reduceOfInt, shl_bit, and_bit, h]
      refine endK.ret ?_ (by first | rfl | simp [bel_int, bel_bool, bel_str, bel_nilp, bel_nili, bel_nilf, bel_nilm, bel_dead, bel_agg, bel_tup, bel_sl, bel_fp, bel_buf, bel_ptr, bel_mp, bel_ifc, bel_fn, bel_opt, belAll_nil, belAll_cons, belO_cells, belO_dead, belO_unborn, belObs_nil, belObs_cons, belObs_append, belAll_tab, belObs_tab, belObs_tabN, belC, bel_Cs, bel_slC, belAll_append]); simp [evRes, getT, retV, Try.f31]
  obtain ⟨k, rfl, hk1, hk2⟩ := okW_nat hw
  have hn1 : ¬ (k : Int) < 1 := by omega
  have hn2 : ¬ 64 < (k : Int) := by omega
  have e : subL a b (k : Int) = if (meet (cutC a k) (cutC b k)).2 = true then subGo (cutC b k) k (cutC a k) else [cutC a k] := by simp [subL, hw]
  by_cases hs : sub (cutC a k) (cutC b k) = true
  · have e2 : subL a b (k : Int) = [] := by
      rw [e, if_pos (sub_meet hs)]
      simp only [sub, Bool.and_eq_true, decide_eq_true_eq] at hs
      exact subGo_sub hk2 hs.1
    rw [e2]
    refine PC.laxr (v := .sl true [] 0) ?_
    refine PC.walk tok mixed cfg0 Try.func31 rfl Try.call31 (by simp [bel_int, bel_bool, bel_str, bel_nilp, bel_nili, bel_nilf, bel_nilm, bel_dead, bel_agg, bel_tup, bel_sl, bel_fp, bel_buf, bel_ptr, bel_mp, bel_ifc, bel_fn, bel_opt, belAll_nil, belAll_cons, belO_cells, belO_dead, belO_unborn, belObs_nil, belObs_cons, belObs_append, belAll_tab, belObs_tab, belObs_tabN, belC, bel_Cs, bel_slC, belAll_append]) (by first | rfl | simp [bel_int, bel_bool, bel_str, bel_nilp, bel_nili, bel_nilf, bel_nilm, bel_dead, bel_agg, bel_tup, bel_sl, bel_fp, bel_buf, bel_ptr, bel_mp, bel_ifc, bel_fn, bel_opt, belAll_nil, belAll_cons, belO_cells, belO_dead, belO_unborn, belObs_nil, belObs_cons, belObs_append, belAll_tab, belObs_tab, belObs_tabN, belC, bel_Cs, bel_slC, belAll_append]) ?_; simp (config := { maxSteps := 2000000 }) -implicitDefEqProofs +contextual (disch := first | assumption | omega | decide +kernel) only [push_cast, ↓capI, br2_true, br2_false, frk_tt, frk_tf, frk_f, frkD_tt, frkD_tf, frkD_f, pk2_true, pk2_false, imp_true, Nat.reduceAdd, Nat.reduceSub, Nat.reduceMul, Nat.reduceLeDiff, Nat.reduceLT, reduceCtorEq, ↓reduceIte, Nat.reduceEqDiff, Nat.reduceSub, Nat.reduceMul, Int.reduceNeg, Int.reduceLT, Int.reduceLE, Int.reduceAdd, Int.reduceSub, Int.reduceMul, Int.reduceEq, Int.reduceToNat, Nat.reduceDiv, Nat.reduceMod, Nat.reduceBEq, Nat.reduceBNe, reduceCtorEq, tt_25, tt_23, tt_3, tt_4, tt_5, tt_26, tt_36, tt_38, tt_9, encC, cfg0, ib_and, ib_or, ib_xor, ib_andNot, ib_not, w_ofInt, w_eqb, w_eqb0, w_inj, w_zero, w_wrap, BitVec.reduceOfInt, shl_bit, and_bit, Try.ntmps31]
    refine callG.pc1 (pc66 a k hk2) ?_
    simp (config := { maxSteps := 2000000 }) -implicitDefEqProofs +contextual (disch := first | assumption | omega | decide +kernel) only [push_cast, ↓capI, br2_true, br2_false, frk_tt, frk_tf, frk_f, frkD_tt, frkD_tf, frkD_f, pk2_true, pk2_false, imp_true, Nat.reduceAdd, Nat.reduceSub, Nat.reduceMul, Nat.reduceLeDiff, Nat.reduceLT, reduceCtorEq, ↓reduceIte, Nat.reduceEqDiff, Nat.reduceSub, Nat.reduceMul, Int.reduceNeg, Int.reduceLT, Int.reduceLE, Int.reduceAdd, Int.reduceSub, Int.reduceMul, Int.reduceEq, Int.reduceToNat, Nat.reduceDiv, Nat.reduceMod, Nat.reduceBEq, Nat.reduceBNe, reduceCtorEq, tt_25, tt_23, tt_3, tt_4, tt_5, tt_26, tt_36, tt_38, tt_9, encC, cfg0, ib_and, ib_or, ib_xor, ib_andNot, ib_not, w_ofInt, w_eqb, w_eqb0, w_inj, w_zero, w_wrap, BitVec.reduceOfInt, shl_bit, and_bit]
    refine callG.pc1 (pc66 b k hk2) ?_
    simp (config := { maxSteps := 2000000 }) -implicitDefEqProofs +contextual (disch := first | assumption | omega | decide +kernel) only [push_cast, ↓capI, br2_true, br2_false, frk_tt, frk_tf, frk_f, frkD_tt, frkD_tf, frkD_f, pk2_true, pk2_false, imp_true, Nat.reduceAdd, Nat.reduceSub, Nat.reduceMul, Nat.reduceLeDiff, Nat.reduceLT, reduceCtorEq, ↓reduceIte, Nat.reduceEqDiff, Nat.reduceSub, Nat.reduceMul, Int.reduceNeg, Int.reduceLT, Int.reduceLE, Int.reduceAdd, Int.reduceSub, Int.reduceMul, Int.reduceEq, Int.reduceToNat, Nat.reduceDiv, Nat.reduceMod, Nat.reduceBEq, Nat.reduceBNe, reduceCtorEq, tt_25, tt_23, tt_3, tt_4, tt_5, tt_26, tt_36, tt_38, tt_9, encC, cfg0, ib_and, ib_or, ib_xor, ib_andNot, ib_not, w_ofInt, w_eqb, w_eqb0, w_inj, w_zero, w_wrap, BitVec.reduceOfInt, shl_bit, and_bit]
    refine callO.pc (pc29 (cutC a k) (cutC b k)) ?_
    rw [hs]
    simp (config := { maxSteps := 2000000 }) -implicitDefEqProofs +contextual (disch := first | assumption | omega | decide +kernel) only [push_cast, ↓capI, br2_true, br2_false, frk_tt, frk_tf, frk_f, frkD_tt, frkD_tf, frkD_f, pk2_true, pk2_false, imp_true, Nat.reduceAdd, Nat.reduceSub, Nat.reduceMul, Nat.reduceLeDiff, Nat.reduceLT, reduceCtorEq, ↓reduceIte, Nat.reduceEqDiff, Nat.reduceSub, Nat.reduceMul, Int.reduceNeg, Int.reduceLT, Int.reduceLE, Int.reduceAdd, Int.reduceSub, Int.reduceMul, Int.reduceEq, Int.reduceToNat, Nat.reduceDiv, Nat.reduceMod, Nat.reduceBEq, Nat.reduceBNe, reduceCtorEq, tt_25, tt_23, tt_3, tt_4, tt_5, tt_26, tt_36, tt_38, tt_9, encC, cfg0, ib_and, ib_or, ib_xor, ib_andNot, ib_not, w_ofInt, w_eqb, w_eqb0, w_inj, w_zero, w_wrap, BitVec.reduceOfInt, shl_bit, and_bit]
    refine endK.ret ?_ (by first | rfl | simp [bel_int, bel_bool, bel_str, bel_nilp, bel_nili, bel_nilf, bel_nilm, bel_dead, bel_agg, bel_tup, bel_sl, bel_fp, bel_buf, bel_ptr, bel_mp, bel_ifc, bel_fn, bel_opt, belAll_nil, belAll_cons, belO_cells, belO_dead, belO_unborn, belObs_nil, belObs_cons, belObs_append, belAll_tab, belObs_tab, belObs_tabN, belC, bel_Cs, bel_slC, belAll_append]); simp [evRes, getT, retV, Try.f31]
  have hsf : sub (cutC a k) (cutC b k) = false := by simpa using hs
  by_cases hm : (meet (cutC a k) (cutC b k)).2 = true
  case neg =>
    have hmf : (meet (cutC a k) (cutC b k)).2 = false := by simpa using hm
    rw [e, if_neg hm]
    refine PC.walk tok mixed cfg0 Try.func31 rfl Try.call31 (by simp [bel_int, bel_bool, bel_str, bel_nilp, bel_nili, bel_nilf, bel_nilm, bel_dead, bel_agg, bel_tup, bel_sl, bel_fp, bel_buf, bel_ptr, bel_mp, bel_ifc, bel_fn, bel_opt, belAll_nil, belAll_cons, belO_cells, belO_dead, belO_unborn, belObs_nil, belObs_cons, belObs_append, belAll_tab, belObs_tab, belObs_tabN, belC, bel_Cs, bel_slC, belAll_append]) (by first | rfl | simp [bel_int, bel_bool, bel_str, bel_nilp, bel_nili, bel_nilf, bel_nilm, bel_dead, bel_agg, bel_tup, bel_sl, bel_fp, bel_buf, bel_ptr, bel_mp, bel_ifc, bel_fn, bel_opt, belAll_nil, belAll_cons, belO_cells, belO_dead, belO_unborn, belObs_nil, belObs_cons, belObs_append, belAll_tab, belObs_tab, belObs_tabN, belC, bel_Cs, bel_slC, belAll_append]) ?_; simp (config := { maxSteps := 2000000 }) -implicitDefEqProofs +contextual (disch := first | assumption | omega | decide +kernel) only [push_cast, ↓capI, br2_true, br2_false, frk_tt, frk_tf, frk_f, frkD_tt, frkD_tf, frkD_f, pk2_true, pk2_false, imp_true, Nat.reduceAdd, Nat.reduceSub, Nat.reduceMul, Nat.reduceLeDiff, Nat.reduceLT, reduceCtorEq, ↓reduceIte, Nat.reduceEqDiff, Nat.reduceSub, Nat.reduceMul, Int.reduceNeg, Int.reduceLT, Int.reduceLE, Int.reduceAdd, Int.reduceSub, Int.reduceMul, Int.reduceEq, Int.reduceToNat, Nat.reduceDiv, Nat.reduceMod, Nat.reduceBEq, Nat.reduceBNe, reduceCtorEq, tt_25, tt_23, tt_3, tt_4, tt_5, tt_26, tt_36, tt_38, tt_9, encC, cfg0, ib_and, ib_or, ib_xor, ib_andNot, ib_not, w_ofInt, w_eqb, w_eqb0, w_inj, w_zero, w_wrap, BitVec.reduceOfInt, shl_bit, and_bit, Try.ntmps31]
    refine callG.pc1 (pc66 a k hk2) ?_
    simp (config := { maxSteps := 2000000 }) -implicitDefEqProofs +contextual (disch := first | assumption | omega | decide +kernel) only [push_cast, ↓capI, br2_true, br2_false, frk_tt, frk_tf, frk_f, frkD_tt, frkD_tf, frkD_f, pk2_true, pk2_false, imp_true, Nat.reduceAdd, Nat.reduceSub, Nat.reduceMul, Nat.reduceLeDiff, Nat.reduceLT, reduceCtorEq, ↓reduceIte, Nat.reduceEqDiff, Nat.reduceSub, Nat.reduceMul, Int.reduceNeg, Int.reduceLT, Int.reduceLE, Int.reduceAdd, Int.reduceSub, Int.reduceMul, Int.reduceEq, Int.reduceToNat, Nat.reduceDiv, Nat.reduceMod, Nat.reduceBEq, Nat.reduceBNe, reduceCtorEq, tt_25, tt_23, tt_3, tt_4, tt_5, tt_26, tt_36, tt_38, tt_9, encC, cfg0, ib_and, ib_or, ib_xor, ib_andNot, ib_not, w_ofInt, w_eqb, w_eqb0, w_inj, w_zero, w_wrap, BitVec.reduceOfInt, shl_bit, and_bit]
    refine callG.pc1 (pc66 b k hk2) ?_
    simp (config := { maxSteps := 2000000 }) -implicitDefEqProofs +contextual (disch := first | assumption | omega | decide +kernel) only [push_cast, ↓capI, br2_true, br2_false, frk_tt, frk_tf, frk_f, frkD_tt, frkD_tf, frkD_f, pk2_true, pk2_false, imp_true, Nat.reduceAdd, Nat.reduceSub, Nat.reduceMul, Nat.reduceLeDiff, Nat.reduceLT, reduceCtorEq, ↓reduceIte, Nat.reduceEqDiff, Nat.reduceSub, Nat.reduceMul, Int.reduceNeg, Int.reduceLT, Int.reduceLE, Int.reduceAdd, Int.reduceSub, Int.reduceMul, Int.reduceEq, Int.reduceToNat, Nat.reduceDiv, Nat.reduceMod, Nat.reduceBEq, Nat.reduceBNe, reduceCtorEq, tt_25, tt_23, tt_3, tt_4, tt_5, tt_26, tt_36, tt_38, tt_9, encC, cfg0, ib_and, ib_or, ib_xor, ib_andNot, ib_not, w_ofInt, w_eqb, w_eqb0, w_inj, w_zero, w_wrap, BitVec.reduceOfInt, shl_bit, and_bit]
    refine callO.pc (pc29 (cutC a k) (cutC b k)) ?_
    rw [hsf]
    simp (config := { maxSteps := 2000000 }) -implicitDefEqProofs +contextual (disch := first | assumption | omega | decide +kernel) only [push_cast, ↓capI, br2_true, br2_false, frk_tt, frk_tf, frk_f, frkD_tt, frkD_tf, frkD_f, pk2_true, pk2_false, imp_true, Nat.reduceAdd, Nat.reduceSub, Nat.reduceMul, Nat.reduceLeDiff, Nat.reduceLT, reduceCtorEq, ↓reduceIte, Nat.reduceEqDiff, Nat.reduceSub, Nat.reduceMul, Int.reduceNeg, Int.reduceLT, Int.reduceLE, Int.reduceAdd, Int.reduceSub, Int.reduceMul, Int.reduceEq, Int.reduceToNat, Nat.reduceDiv, Nat.reduceMod, Nat.reduceBEq, Nat.reduceBNe, reduceCtorEq, tt_25, tt_23, tt_3, tt_4, tt_5, tt_26, tt_36, tt_38, tt_9, encC, cfg0, ib_and, ib_or, ib_xor, ib_andNot, ib_not, w_ofInt, w_eqb, w_eqb0, w_inj, w_zero, w_wrap, BitVec.reduceOfInt, shl_bit, and_bit]
    refine callO.pc (pc24 (cutC a k) (cutC b k)) ?_
    simp (config := { maxSteps := 2000000 }) -implicitDefEqProofs +contextual (disch := first | assumption | omega | decide +kernel) only [push_cast, ↓capI, br2_true, br2_false, frk_tt, frk_tf, frk_f, frkD_tt, frkD_tf, frkD_f, pk2_true, pk2_false, imp_true, Nat.reduceAdd, Nat.reduceSub, Nat.reduceMul, Nat.reduceLeDiff, Nat.reduceLT, reduceCtorEq, ↓reduceIte, Nat.reduceEqDiff, Nat.reduceSub, Nat.reduceMul, Int.reduceNeg, Int.reduceLT, Int.reduceLE, Int.reduceAdd, Int.reduceSub, Int.reduceMul, Int.reduceEq, Int.reduceToNat, Nat.reduceDiv, Nat.reduceMod, Nat.reduceBEq, Nat.reduceBNe, reduceCtorEq, tt_25, tt_23, tt_3, tt_4, tt_5, tt_26, tt_36, tt_38, tt_9, encC, cfg0, ib_and, ib_or, ib_xor, ib_andNot, ib_not, w_ofInt, w_eqb, w_eqb0, w_inj, w_zero, w_wrap, BitVec.reduceOfInt, shl_bit, and_bit, encCB, hmf]
    refine endK.gn (Gn.freeze (id := 5) rfl) ?_; refine endK.ret ?_ (by first | rfl | simp [bel_int, bel_bool, bel_str, bel_nilp, bel_nili, bel_nilf, bel_nilm, bel_dead, bel_agg, bel_tup, bel_sl, bel_fp, bel_buf, bel_ptr, bel_mp, bel_ifc, bel_fn, bel_opt, belAll_nil, belAll_cons, belO_cells, belO_dead, belO_unborn, belObs_nil, belObs_cons, belObs_append, belAll_tab, belObs_tab, belObs_tabN, belC, bel_Cs, bel_slC, belAll_append]); simp [bel_int, bel_bool, bel_str, bel_nilp, bel_nili, bel_nilf, bel_nilm, bel_dead, bel_agg, bel_tup, bel_sl, bel_fp, bel_buf, bel_ptr, bel_mp, bel_ifc, bel_fn, bel_opt, belAll_nil, belAll_cons, belO_cells, belO_dead, belO_unborn, belObs_nil, belObs_cons, belObs_append, belAll_tab, belObs_tab, belObs_tabN, belC, bel_Cs, bel_slC, belAll_append, fzs_ok, imp, lenOK_iff, List.take_of_length_le, evRes, getT, getO, setO, fzs, fz, fzH, Nat.beq, retV, Res.then, ldT, ldR, mkV, getV, tt_25, tt_23, tt_3, tt_4, tt_5, tt_26, tt_36, tt_38, tt_9, encC, cfg0, ib_and, ib_or, ib_xor, ib_andNot, ib_not, w_ofInt, w_eqb, w_eqb0, w_inj, w_zero, w_wrap, BitVec.reduceOfInt, shl_bit, and_bit, Try.f31,  slC, encC, cutC]
  rw [e, if_pos hm]
  refine PC.walk tok mixed cfg0 Try.func31 rfl Try.call31 (by simp [bel_int, bel_bool, bel_str, bel_nilp, bel_nili, bel_nilf, bel_nilm, bel_dead, bel_agg, bel_tup, bel_sl, bel_fp, bel_buf, bel_ptr, bel_mp, bel_ifc, bel_fn, bel_opt, belAll_nil, belAll_cons, belO_cells, belO_dead, belO_unborn, belObs_nil, belObs_cons, belObs_append, belAll_tab, belObs_tab, belObs_tabN, belC, bel_Cs, bel_slC, belAll_append]) (by first | rfl | simp [bel_int, bel_bool, bel_str, bel_nilp, bel_nili, bel_nilf, bel_nilm, bel_dead, bel_agg, bel_tup, bel_sl, bel_fp, bel_buf, bel_ptr, bel_mp, bel_ifc, bel_fn, bel_opt, belAll_nil, belAll_cons, belO_cells, belO_dead, belO_unborn, belObs_nil, belObs_cons, belObs_append, belAll_tab, belObs_tab, belObs_tabN, belC, bel_Cs, bel_slC, belAll_append]) ?_; simp (config := { maxSteps := 2000000 }) -implicitDefEqProofs +contextual (disch := first | assumption | omega | decide +kernel) only [push_cast, ↓capI, br2_true, br2_false, frk_tt, frk_tf, frk_f, frkD_tt, frkD_tf, frkD_f, pk2_true, pk2_false, imp_true, Nat.reduceAdd, Nat.reduceSub, Nat.reduceMul, Nat.reduceLeDiff, Nat.reduceLT, reduceCtorEq, ↓reduceIte, Nat.reduceEqDiff, Nat.reduceSub, Nat.reduceMul, Int.reduceNeg, Int.reduceLT, Int.reduceLE, Int.reduceAdd, Int.reduceSub, Int.reduceMul, Int.reduceEq, Int.reduceToNat, Nat.reduceDiv, Nat.reduceMod, Nat.reduceBEq, Nat.reduceBNe, reduceCtorEq, tt_25, tt_23, tt_3, tt_4, tt_5, tt_26, tt_36, tt_38, tt_9, encC, cfg0, ib_and, ib_or, ib_xor, ib_andNot, ib_not, w_ofInt, w_eqb, w_eqb0, w_inj, w_zero, w_wrap, BitVec.reduceOfInt, shl_bit, and_bit, Try.ntmps31]
  refine callG.pc1 (pc66 a k hk2) ?_
  simp (config := { maxSteps := 2000000 }) -implicitDefEqProofs +contextual (disch := first | assumption | omega | decide +kernel) only [push_cast, ↓capI, br2_true, br2_false, frk_tt, frk_tf, frk_f, frkD_tt, frkD_tf, frkD_f, pk2_true, pk2_false, imp_true, Nat.reduceAdd, Nat.reduceSub, Nat.reduceMul, Nat.reduceLeDiff, Nat.reduceLT, reduceCtorEq, ↓reduceIte, Nat.reduceEqDiff, Nat.reduceSub, Nat.reduceMul, Int.reduceNeg, Int.reduceLT, Int.reduceLE, Int.reduceAdd, Int.reduceSub, Int.reduceMul, Int.reduceEq, Int.reduceToNat, Nat.reduceDiv, Nat.reduceMod, Nat.reduceBEq, Nat.reduceBNe, reduceCtorEq, tt_25, tt_23, tt_3, tt_4, tt_5, tt_26, tt_36, tt_38, tt_9, encC, cfg0, ib_and, ib_or, ib_xor, ib_andNot, ib_not, w_ofInt, w_eqb, w_eqb0, w_inj, w_zero, w_wrap, BitVec.reduceOfInt, shl_bit, and_bit]
  refine callG.pc1 (pc66 b k hk2) ?_
  simp (config := { maxSteps := 2000000 }) -implicitDefEqProofs +contextual (disch := first | assumption | omega | decide +kernel) only [push_cast, ↓capI, br2_true, br2_false, frk_tt, frk_tf, frk_f, frkD_tt, frkD_tf, frkD_f, pk2_true, pk2_false, imp_true, Nat.reduceAdd, Nat.reduceSub, Nat.reduceMul, Nat.reduceLeDiff, Nat.reduceLT, reduceCtorEq, ↓reduceIte, Nat.reduceEqDiff, Nat.reduceSub, Nat.reduceMul, Int.reduceNeg, Int.reduceLT, Int.reduceLE, Int.reduceAdd, Int.reduceSub, Int.reduceMul, Int.reduceEq, Int.reduceToNat, Nat.reduceDiv, Nat.reduceMod, Nat.reduceBEq, Nat.reduceBNe, reduceCtorEq, tt_25, tt_23, tt_3, tt_4, tt_5, tt_26, tt_36, tt_38, tt_9, encC, cfg0, ib_and, ib_or, ib_xor, ib_andNot, ib_not, w_ofInt, w_eqb, w_eqb0, w_inj, w_zero, w_wrap, BitVec.reduceOfInt, shl_bit, and_bit]
  refine callO.pc (pc29 (cutC a k) (cutC b k)) ?_
  rw [hsf]
  simp (config := { maxSteps := 2000000 }) -implicitDefEqProofs +contextual (disch := first | assumption | omega | decide +kernel) only [push_cast, ↓capI, br2_true, br2_false, frk_tt, frk_tf, frk_f, frkD_tt, frkD_tf, frkD_f, pk2_true, pk2_false, imp_true, Nat.reduceAdd, Nat.reduceSub, Nat.reduceMul, Nat.reduceLeDiff, Nat.reduceLT, reduceCtorEq, ↓reduceIte, Nat.reduceEqDiff, Nat.reduceSub, Nat.reduceMul, Int.reduceNeg, Int.reduceLT, Int.reduceLE, Int.reduceAdd, Int.reduceSub, Int.reduceMul, Int.reduceEq, Int.reduceToNat, Nat.reduceDiv, Nat.reduceMod, Nat.reduceBEq, Nat.reduceBNe, reduceCtorEq, tt_25, tt_23, tt_3, tt_4, tt_5, tt_26, tt_36, tt_38, tt_9, encC, cfg0, ib_and, ib_or, ib_xor, ib_andNot, ib_not, w_ofInt, w_eqb, w_eqb0, w_inj, w_zero, w_wrap, BitVec.reduceOfInt, shl_bit, and_bit]
  refine callO.pc (pc24 (cutC a k) (cutC b k)) ?_
  simp (config := { maxSteps := 2000000 }) -implicitDefEqProofs +contextual (disch := first | assumption | omega | decide +kernel) only [push_cast, ↓capI, br2_true, br2_false, frk_tt, frk_tf, frk_f, frkD_tt, frkD_tf, frkD_f, pk2_true, pk2_false, imp_true, Nat.reduceAdd, Nat.reduceSub, Nat.reduceMul, Nat.reduceLeDiff, Nat.reduceLT, reduceCtorEq, ↓reduceIte, Nat.reduceEqDiff, Nat.reduceSub, Nat.reduceMul, Int.reduceNeg, Int.reduceLT, Int.reduceLE, Int.reduceAdd, Int.reduceSub, Int.reduceMul, Int.reduceEq, Int.reduceToNat, Nat.reduceDiv, Nat.reduceMod, Nat.reduceBEq, Nat.reduceBNe, reduceCtorEq, tt_25, tt_23, tt_3, tt_4, tt_5, tt_26, tt_36, tt_38, tt_9, encC, cfg0, ib_and, ib_or, ib_xor, ib_andNot, ib_not, w_ofInt, w_eqb, w_eqb0, w_inj, w_zero, w_wrap, BitVec.reduceOfInt, shl_bit, and_bit, encCB, hm]
  refine T.lp tok mixed cfg0 (fun ((j, r, L, ver) : Nat × Cu × List Cu × Nat) => dd 7 (kp 2 (sv (.buf 5 ver 0 L.length 2) (dd 2 (sv (.int .i64 ((j : Int) - 1)) (dd 78 (nl))))))) (fun H0 ((j, r, L, ver) : Nat × Cu × List Cu × Nat) => [.cells 0 (encC a), .cells 0 (encC b), .cells 0 (encC r), .cells 0 (encC (cutC b k)), .cells 0 (encC (meet (cutC a k) (cutC b k)).1), .cells ver (L.flatMap encC)]) (fun ((j, r, L, ver) : Nat × Cu × List Cu × Nat) => j ≤ k ∧ L ++ subGo (cutC b k) j r = subGo (cutC b k) k (cutC a k)) (fun ((j, r, L, ver) : Nat × Cu × List Cu × Nat) => j) ((k, cutC a k, [], 0)) ?_ ?_ ?_
  · exact ⟨Nat.le_refl _, rfl⟩
  · refine (Gn.ownNil (t := 9) (sz := 2) rfl).trans ?_
    exact Gn.canon (J := []) (by first | rfl | (simp [List.append_nil]; done) | (simp [List.append_nil]; rfl)) (by simp [wk, putT, kp, dd, sv, nl]) (by simp [List.length_append]) (by simp [bel_int, bel_bool, bel_str, bel_nilp, bel_nili, bel_nilf, bel_nilm, bel_dead, bel_agg, bel_tup, bel_sl, bel_fp, bel_buf, bel_ptr, bel_mp, bel_ifc, bel_fn, bel_opt, belAll_nil, belAll_cons, belO_cells, belO_dead, belO_unborn, belObs_nil, belObs_cons, belObs_append, belAll_tab, belObs_tab, belObs_tabN, belC, bel_Cs, bel_slC, belAll_append, kp, dd, sv, nl]) (by simp [bel_int, bel_bool, bel_str, bel_nilp, bel_nili, bel_nilf, bel_nilm, bel_dead, bel_agg, bel_tup, bel_sl, bel_fp, bel_buf, bel_ptr, bel_mp, bel_ifc, bel_fn, bel_opt, belAll_nil, belAll_cons, belO_cells, belO_dead, belO_unborn, belObs_nil, belObs_cons, belObs_append, belAll_tab, belObs_tab, belObs_tabN, belC, bel_Cs, bel_slC, belAll_append])
  rintro ⟨j, r, L, ver⟩ ⟨hj, hL⟩
  have hlen : L.length ≤ 64 := by
    have h1 := congrArg List.length hL
    rw [List.length_append] at h1
    have := @subGo_len (cutC b k) k (cutC a k)
    omega
  cases j with
  | zero =>
    simp (config := { maxSteps := 2000000 }) -implicitDefEqProofs +contextual (disch := first | assumption | omega | decide +kernel) only [push_cast, ↓capI, br2_true, br2_false, frk_tt, frk_tf, frk_f, frkD_tt, frkD_tf, frkD_f, pk2_true, pk2_false, imp_true, Nat.reduceAdd, Nat.reduceSub, Nat.reduceMul, Nat.reduceLeDiff, Nat.reduceLT, reduceCtorEq, ↓reduceIte, Nat.reduceEqDiff, Nat.reduceSub, Nat.reduceMul, Int.reduceNeg, Int.reduceLT, Int.reduceLE, Int.reduceAdd, Int.reduceSub, Int.reduceMul, Int.reduceEq, Int.reduceToNat, Nat.reduceDiv, Nat.reduceMod, Nat.reduceBEq, Nat.reduceBNe, reduceCtorEq, tt_25, tt_23, tt_3, tt_4, tt_5, tt_26, tt_36, tt_38, tt_9, encC, cfg0, ib_and, ib_or, ib_xor, ib_andNot, ib_not, w_ofInt, w_eqb, w_eqb0, w_inj, w_zero, w_wrap, BitVec.reduceOfInt, shl_bit, and_bit]
    have hL2 : L = subGo (cutC b k) k (cutC a k) := by
      rw [← hL]; simp [subGo]
    refine endK.gn (Gn.freeze (id := 5) rfl) ?_; refine endK.ret ?_ (by first | rfl | simp [bel_int, bel_bool, bel_str, bel_nilp, bel_nili, bel_nilf, bel_nilm, bel_dead, bel_agg, bel_tup, bel_sl, bel_fp, bel_buf, bel_ptr, bel_mp, bel_ifc, bel_fn, bel_opt, belAll_nil, belAll_cons, belO_cells, belO_dead, belO_unborn, belObs_nil, belObs_cons, belObs_append, belAll_tab, belObs_tab, belObs_tabN, belC, bel_Cs, bel_slC, belAll_append]); simp [bel_int, bel_bool, bel_str, bel_nilp, bel_nili, bel_nilf, bel_nilm, bel_dead, bel_agg, bel_tup, bel_sl, bel_fp, bel_buf, bel_ptr, bel_mp, bel_ifc, bel_fn, bel_opt, belAll_nil, belAll_cons, belO_cells, belO_dead, belO_unborn, belObs_nil, belObs_cons, belObs_append, belAll_tab, belObs_tab, belObs_tabN, belC, bel_Cs, bel_slC, belAll_append, fzs_ok, imp, lenOK_iff, List.take_of_length_le, evRes, getT, getO, setO, fzs, fz, fzH, Nat.beq, retV, Res.then, ldT, ldR, mkV, getV, tt_25, tt_23, tt_3, tt_4, tt_5, tt_26, tt_36, tt_38, tt_9, encC, cfg0, ib_and, ib_or, ib_xor, ib_andNot, ib_not, w_ofInt, w_eqb, w_eqb0, w_inj, w_zero, w_wrap, BitVec.reduceOfInt, shl_bit, and_bit, Try.f31,  slC, hL2, len_flat lenC]
  | succ j =>
    simp (config := { maxSteps := 2000000 }) -implicitDefEqProofs +contextual (disch := first | assumption | omega | decide +kernel) only [push_cast, ↓capI, br2_true, br2_false, frk_tt, frk_tf, frk_f, frkD_tt, frkD_tf, frkD_f, pk2_true, pk2_false, imp_true, Nat.reduceAdd, Nat.reduceSub, Nat.reduceMul, Nat.reduceLeDiff, Nat.reduceLT, reduceCtorEq, ↓reduceIte, Nat.reduceEqDiff, Nat.reduceSub, Nat.reduceMul, Int.reduceNeg, Int.reduceLT, Int.reduceLE, Int.reduceAdd, Int.reduceSub, Int.reduceMul, Int.reduceEq, Int.reduceToNat, Nat.reduceDiv, Nat.reduceMod, Nat.reduceBEq, Nat.reduceBNe, reduceCtorEq, tt_25, tt_23, tt_3, tt_4, tt_5, tt_26, tt_36, tt_38, tt_9, encC, cfg0, ib_and, ib_or, ib_xor, ib_andNot, ib_not, w_ofInt, w_eqb, w_eqb0, w_inj, w_zero, w_wrap, BitVec.reduceOfInt, shl_bit, and_bit, Int.add_sub_cancel, len_flat lenC]
    have hj64 : j < 64 := by omega
    refine ⟨fun hb => ⟨fun hr => ?_, fun hr => ?_⟩, fun hb => ?_⟩
    · rw [subGo, if_pos (by simp [hb, hr])] at hL
      refine ⟨(j, nextR (cutC b k) r j, L ++ [piece (cutC b k) r j], ver + 1), ⟨by simp only; omega, by simp only [List.append_assoc, List.cons_append, List.nil_append]; exact hL⟩, by (try simp only); omega, ?_⟩
      exact Gn.canon (J := []) (by simp [encC, nextR, piece, not_bit]) (by simp [wk]) (by simp) (by simp [bel_int, bel_bool, bel_str, bel_nilp, bel_nili, bel_nilf, bel_nilm, bel_dead, bel_agg, bel_tup, bel_sl, bel_fp, bel_buf, bel_ptr, bel_mp, bel_ifc, bel_fn, bel_opt, belAll_nil, belAll_cons, belO_cells, belO_dead, belO_unborn, belObs_nil, belObs_cons, belObs_append, belAll_tab, belObs_tab, belObs_tabN, belC, bel_Cs, bel_slC, belAll_append]) (by simp [bel_int, bel_bool, bel_str, bel_nilp, bel_nili, bel_nilf, bel_nilm, bel_dead, bel_agg, bel_tup, bel_sl, bel_fp, bel_buf, bel_ptr, bel_mp, bel_ifc, bel_fn, bel_opt, belAll_nil, belAll_cons, belO_cells, belO_dead, belO_unborn, belObs_nil, belObs_cons, belObs_append, belAll_tab, belObs_tab, belObs_tabN, belC, bel_Cs, bel_slC, belAll_append])
    · rw [subGo, if_neg (by simp [hr])] at hL
      refine ⟨(j, r, L, ver), ⟨by simp only; omega, hL⟩, by (try simp only); omega, ?_⟩; exact Gn.canon (by first | rfl | (simp [List.append_nil]; rfl)) (by simp [wk]) (by simp [List.length_append]) (by simp [bel_int, bel_bool, bel_str, bel_nilp, bel_nili, bel_nilf, bel_nilm, bel_dead, bel_agg, bel_tup, bel_sl, bel_fp, bel_buf, bel_ptr, bel_mp, bel_ifc, bel_fn, bel_opt, belAll_nil, belAll_cons, belO_cells, belO_dead, belO_unborn, belObs_nil, belObs_cons, belObs_append, belAll_tab, belObs_tab, belObs_tabN, belC, bel_Cs, bel_slC, belAll_append]) (by simp [bel_int, bel_bool, bel_str, bel_nilp, bel_nili, bel_nilf, bel_nilm, bel_dead, bel_agg, bel_tup, bel_sl, bel_fp, bel_buf, bel_ptr, bel_mp, bel_ifc, bel_fn, bel_opt, belAll_nil, belAll_cons, belO_cells, belO_dead, belO_unborn, belObs_nil, belObs_cons, belObs_append, belAll_tab, belObs_tab, belObs_tabN, belC, bel_Cs, bel_slC, belAll_append])
    · rw [subGo, if_neg (by simp [hb])] at hL
      refine ⟨(j, r, L, ver), ⟨by simp only; omega, hL⟩, by (try simp only); omega, ?_⟩; exact Gn.canon (by first | rfl | (simp [List.append_nil]; rfl)) (by simp [wk]) (by simp [List.length_append]) (by simp [bel_int, bel_bool, bel_str, bel_nilp, bel_nili, bel_nilf, bel_nilm, bel_dead, bel_agg, bel_tup, bel_sl, bel_fp, bel_buf, bel_ptr, bel_mp, bel_ifc, bel_fn, bel_opt, belAll_nil, belAll_cons, belO_cells, belO_dead, belO_unborn, belObs_nil, belObs_cons, belObs_append, belAll_tab, belObs_tab, belObs_tabN, belC, bel_Cs, bel_slC, belAll_append]) (by simp [bel_int, bel_bool, bel_str, bel_nilp, bel_nili, bel_nilf, bel_nilm, bel_dead, bel_agg, bel_tup, bel_sl, bel_fp, bel_buf, bel_ptr, bel_mp, bel_ifc, bel_fn, bel_opt, belAll_nil, belAll_cons, belO_cells, belO_dead, belO_unborn, belObs_nil, belObs_cons, belObs_append, belAll_tab, belObs_tab, belObs_tabN, belC, bel_Cs, bel_slC, belAll_append])
end Go.Proofs.Ytopnabckbpogeaa

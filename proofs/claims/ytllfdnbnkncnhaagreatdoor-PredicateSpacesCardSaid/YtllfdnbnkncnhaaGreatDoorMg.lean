/-
  Joined by a program from the texts RTern RSub RRed RSimp RUnion RInter RCut Sub9 Comp Eqs Rsp L3.
-/
import Derived.Test.YtllfdnbnkncnhaaGreatDoorMa
import Derived.Test.YtllfdnbnkncnhaaGreatDoorVm7
import Derived.Test.YtllfdnbnkncnhaaGreatDoorMe
/- Chapter 7: the small functions on cubes, of the program and of the reference. (the reference) -/
set_option maxRecDepth 100000
set_option maxHeartbeats 4000000
set_option linter.all false
namespace Go.Proofs.YtllfdnbnkncnhaaGreatDoor
open Go.Vm

theorem pc58 (a b : Cu) : PC Tryz.prog 58 [.agg (encC a), .agg (encC b)] (encCB (meet a b)) := by
  refine PC.walk tok mixed cfg0 Tryz.func58 rfl Tryz.call58 (by simp [belC, bel_Cs, bel_slC, bel_encCB]) (by first | rfl | simp [belC, bel_Cs, bel_slC, bel_encCB]) ?_; simp (config := { maxSteps := 2000000 }) -implicitDefEqProofs +contextual (disch := first | assumption | omega | decide +kernel) only [push_cast, ↓capI, br2_true, br2_false, frk_tt, frk_tf, frk_f, frkD_tt, frkD_tf, frkD_f, pk2_true, pk2_false, imp_true, seval, Nat.reduceLeDiff, Nat.reduceEqDiff, reduceCtorEq, ↓reduceIte, reduceCtorEq, encC, cfg0, ib_and, ib_or, ib_xor, ib_andNot, ib_not, w_ofInt, w_eqb, w_eqb0, w_inj, w_zero, w_wrap, BitVec.reduceOfInt, Tryz.ntmps58]
  refine ⟨fun h => ?_, fun h => ?_⟩
  · refine endK.ret ?_ (by first | rfl | simp [belC, bel_Cs, bel_slC, bel_encCB]); simp [belC, bel_Cs, bel_slC, bel_encCB, fzs_ok, imp, lenOK_iff, List.take_of_length_le, evRes, getT, getO, setO, fzs, fz, fzH, Nat.beq, retV, Res.then, ldT, ldR, mkV, getV, tt_56, tt_43, tt_3, tt_4, tt_5, tt_26, tt_25, tt_74, tt_9, encC, cfg0, ib_and, ib_or, ib_xor, ib_andNot, ib_not, w_ofInt, w_eqb, w_eqb0, w_inj, w_zero, w_wrap, BitVec.reduceOfInt, Tryz.f58,  meet, meet_alt, h, encCB, encC]
  · refine endK.ret ?_ (by first | rfl | simp [belC, bel_Cs, bel_slC, bel_encCB]); simp [belC, bel_Cs, bel_slC, bel_encCB, fzs_ok, imp, lenOK_iff, List.take_of_length_le, evRes, getT, getO, setO, fzs, fz, fzH, Nat.beq, retV, Res.then, ldT, ldR, mkV, getV, tt_56, tt_43, tt_3, tt_4, tt_5, tt_26, tt_25, tt_74, tt_9, encC, cfg0, ib_and, ib_or, ib_xor, ib_andNot, ib_not, w_ofInt, w_eqb, w_eqb0, w_inj, w_zero, w_wrap, BitVec.reduceOfInt, Tryz.f58,  meet, meet_alt, h, encCB, encC]
theorem pc81 (a b : Cu) : PC Tryz.prog 81 [.agg (encC a), .agg (encC b)] (.bool (sub a b)) := by
  refine PC.walk tok mixed cfg0 Tryz.func81 rfl Tryz.call81 (by simp [belC, bel_Cs, bel_slC, bel_encCB]) (by first | rfl | simp [belC, bel_Cs, bel_slC, bel_encCB]) ?_; simp (config := { maxSteps := 2000000 }) -implicitDefEqProofs +contextual (disch := first | assumption | omega | decide +kernel) only [push_cast, ↓capI, br2_true, br2_false, frk_tt, frk_tf, frk_f, frkD_tt, frkD_tf, frkD_f, pk2_true, pk2_false, imp_true, seval, Nat.reduceLeDiff, Nat.reduceEqDiff, reduceCtorEq, ↓reduceIte, reduceCtorEq, encC, cfg0, ib_and, ib_or, ib_xor, ib_andNot, ib_not, w_ofInt, w_eqb, w_eqb0, w_inj, w_zero, w_wrap, BitVec.reduceOfInt, Tryz.ntmps81]
  repeat' (first | intro _ | refine And.intro ?_ ?_)
  all_goals
    refine endK.ret ?_ (by first | rfl | simp [belC, bel_Cs, bel_slC, bel_encCB]); simp [evRes, getT, retV, Tryz.f81,  sub_alt, *]
theorem pc88 (w : Nat) (h0 : w ≤ 64) : PC Tryz.prog 88 [.int .i64 w] (.int .u64 (low w).toNat) := by
  refine PC.walk tok mixed cfg0 Tryz.func88 rfl Tryz.call88 (by simp [belC, bel_Cs, bel_slC, bel_encCB]) (by first | rfl | simp [belC, bel_Cs, bel_slC, bel_encCB]) ?_; simp (config := { maxSteps := 2000000 }) -implicitDefEqProofs +contextual (disch := first | assumption | omega | decide +kernel) only [push_cast, ↓capI, br2_true, br2_false, frk_tt, frk_tf, frk_f, frkD_tt, frkD_tf, frkD_f, pk2_true, pk2_false, imp_true, seval, Nat.reduceLeDiff, Nat.reduceEqDiff, reduceCtorEq, ↓reduceIte, reduceCtorEq, encC, cfg0, ib_and, ib_or, ib_xor, ib_andNot, ib_not, w_ofInt, w_eqb, w_eqb0, w_inj, w_zero, w_wrap, BitVec.reduceOfInt, Tryz.ntmps88]
  refine T.lp tok mixed cfg0 (fun (i : Nat) => kp 1 (dd 2 (sv (.int .u64 (low i).toNat) (sv (.int .i64 i) (dd 9 (nl)))))) (fun H0 (i : Nat) => H0) (fun (i : Nat) => i ≤ w) (fun (i : Nat) => w - i) (0) ?_ ?_ ?_
  · exact Nat.zero_le _
  · rw [low_zero]
    exact Gn.canon (J := []) (by first | rfl | (simp [List.append_nil]; done) | (simp [List.append_nil]; rfl)) (by simp [wk, putT, kp, dd, sv, nl]) (by simp [List.length_append]) (by simp [belC, bel_Cs, bel_slC, bel_encCB, kp, dd, sv, nl]) (by simp [belC, bel_Cs, bel_slC, bel_encCB])
  · intro i hi
    simp (config := { maxSteps := 2000000 }) -implicitDefEqProofs +contextual (disch := first | assumption | omega | decide +kernel) only [push_cast, ↓capI, br2_true, br2_false, frk_tt, frk_tf, frk_f, frkD_tt, frkD_tf, frkD_f, pk2_true, pk2_false, imp_true, seval, Nat.reduceLeDiff, Nat.reduceEqDiff, reduceCtorEq, ↓reduceIte, reduceCtorEq, encC, cfg0, ib_and, ib_or, ib_xor, ib_andNot, ib_not, w_ofInt, w_eqb, w_eqb0, w_inj, w_zero, w_wrap, BitVec.reduceOfInt]
    refine ⟨fun hlt => ?_, fun hge => ?_⟩
    · have : IntKind.u64.wrap (IntKind.u64.wrap (2 * ((low i).toNat : Int)) + 1) = ((low (i + 1)).toNat : Int) := by
        have h1 := w_mul (x := 2#64) (y := low i)
        have h2 := w_add (x := 2#64 * low i) (y := 1#64)
        rw [low_succ (by omega)] at h2
        rw [← h2, ← h1]
        rfl
      refine ⟨i + 1, by omega, by (try simp only); omega, ?_⟩; exact Gn.canon (by first | rfl | (simp [List.append_nil, this]; rfl)) (by simp [wk, this]) (by simp [List.length_append]) (by simp [belC, bel_Cs, bel_slC, bel_encCB]) (by simp [belC, bel_Cs, bel_slC, bel_encCB])
    · obtain rfl : i = w := by omega
      refine endK.ret ?_ (by first | rfl | simp [belC, bel_Cs, bel_slC, bel_encCB]); simp [evRes, getT, retV, Tryz.f88]
theorem pc80 (c : Cu) (w : Nat) (h0 : w ≤ 64) : PC Tryz.prog 80 [.agg (encC c), .int .i64 w] (.agg (encC ⟨c.v &&& (c.m &&& low w), c.m &&& low w⟩)) := by
  refine PC.walk tok mixed cfg0 Tryz.func80 rfl Tryz.call80 (by simp [belC, bel_Cs, bel_slC, bel_encCB]) (by first | rfl | simp [belC, bel_Cs, bel_slC, bel_encCB]) ?_; simp (config := { maxSteps := 2000000 }) -implicitDefEqProofs +contextual (disch := first | assumption | omega | decide +kernel) only [push_cast, ↓capI, br2_true, br2_false, frk_tt, frk_tf, frk_f, frkD_tt, frkD_tf, frkD_f, pk2_true, pk2_false, imp_true, seval, Nat.reduceLeDiff, Nat.reduceEqDiff, reduceCtorEq, ↓reduceIte, reduceCtorEq, encC, cfg0, ib_and, ib_or, ib_xor, ib_andNot, ib_not, w_ofInt, w_eqb, w_eqb0, w_inj, w_zero, w_wrap, BitVec.reduceOfInt, Tryz.ntmps80]
  refine callG.pc1 (pc88 w h0) ?_
  simp (config := { maxSteps := 2000000 }) -implicitDefEqProofs +contextual (disch := first | assumption | omega | decide +kernel) only [push_cast, ↓capI, br2_true, br2_false, frk_tt, frk_tf, frk_f, frkD_tt, frkD_tf, frkD_f, pk2_true, pk2_false, imp_true, seval, Nat.reduceLeDiff, Nat.reduceEqDiff, reduceCtorEq, ↓reduceIte, reduceCtorEq, encC, cfg0, ib_and, ib_or, ib_xor, ib_andNot, ib_not, w_ofInt, w_eqb, w_eqb0, w_inj, w_zero, w_wrap, BitVec.reduceOfInt]
  refine endK.ret ?_ (by first | rfl | simp [belC, bel_Cs, bel_slC, bel_encCB]); simp [belC, bel_Cs, bel_slC, bel_encCB, fzs_ok, imp, lenOK_iff, List.take_of_length_le, evRes, getT, getO, setO, fzs, fz, fzH, Nat.beq, retV, Res.then, ldT, ldR, mkV, getV, tt_56, tt_43, tt_3, tt_4, tt_5, tt_26, tt_25, tt_74, tt_9, encC, cfg0, ib_and, ib_or, ib_xor, ib_andNot, ib_not, w_ofInt, w_eqb, w_eqb0, w_inj, w_zero, w_wrap, BitVec.reduceOfInt, Tryz.f80,  encC]
end Go.Proofs.YtllfdnbnkncnhaaGreatDoor

/- Chapter 7: the difference of two cubes, in plain words; the reference's. (the reference) -/
set_option maxRecDepth 100000
set_option maxHeartbeats 4000000
set_option linter.all false
namespace Go.Proofs.YtllfdnbnkncnhaaGreatDoor
open Go.Vm

theorem pc69 (a b : Cu) (w : Int) : PC Tryz.prog 69 [.agg (encC a), .agg (encC b), .int .i64 w] (slC (subL a b w)) := by
  by_cases hw : okW w = true
  case neg =>
    have hw' : w < 1 ∨ 64 < w := by
      simp only [okW, Bool.and_eq_true, decide_eq_true_eq] at hw
      omega
    have e : subL a b w = [] := by simp [subL, hw]
    rw [e]
    refine PC.laxr (v := .sl true [] 0) ?_
    refine PC.walk tok mixed cfg0 Tryz.func69 rfl Tryz.call69 (by simp [belC, bel_Cs, bel_slC, belAll_append]) (by first | rfl | simp [belC, bel_Cs, bel_slC, belAll_append]) ?_; simp (config := { maxSteps := 2000000 }) -implicitDefEqProofs +contextual (disch := first | assumption | omega | decide +kernel) only [push_cast, ↓capI, br2_true, br2_false, frk_tt, frk_tf, frk_f, frkD_tt, frkD_tf, frkD_f, pk2_true, pk2_false, imp_true, seval, Nat.reduceLeDiff, Nat.reduceEqDiff, reduceCtorEq, ↓reduceIte, reduceCtorEq, encC, cfg0, ib_and, ib_or, ib_xor, ib_andNot, ib_not, w_ofInt, w_eqb, w_eqb0, w_inj, w_zero, w_wrap, BitVec.reduceOfInt, shl_bit, and_bit, Tryz.ntmps69]
    rcases hw' with h | h
    · simp (config := { maxSteps := 2000000 }) -implicitDefEqProofs +contextual (disch := first | assumption | omega | decide +kernel) only [push_cast, ↓capI, br2_true, br2_false, frk_tt, frk_tf, frk_f, frkD_tt, frkD_tf, frkD_f, pk2_true, pk2_false, imp_true, seval, Nat.reduceLeDiff, Nat.reduceEqDiff, reduceCtorEq, ↓reduceIte, reduceCtorEq, encC, cfg0, ib_and, ib_or, ib_xor, ib_andNot, ib_not, w_ofInt, w_eqb, w_eqb0, w_inj, w_zero, w_wrap, BitVec.reduceOfInt, shl_bit, and_bit, h]
      refine endK.ret ?_ (by first | rfl | simp [belC, bel_Cs, bel_slC, belAll_append]); simp [evRes, getT, retV, Tryz.f69]
    · simp (config := { maxSteps := 2000000 }) -implicitDefEqProofs +contextual (disch := first | assumption | omega | decide +kernel) only [push_cast, ↓capI, br2_true, br2_false, frk_tt, frk_tf, frk_f, frkD_tt, frkD_tf, frkD_f, pk2_true, pk2_false, imp_true, seval, Nat.reduceLeDiff, Nat.reduceEqDiff, reduceCtorEq, ↓reduceIte, reduceCtorEq, encC, cfg0, ib_and, ib_or, ib_xor, ib_andNot, ib_not, w_ofInt, w_eqb, w_eqb0, w_inj, w_zero, w_wrap, BitVec.reduceOfInt, shl_bit, and_bit, h]
      refine endK.ret ?_ (by first | rfl | simp [belC, bel_Cs, bel_slC, belAll_append]); simp [evRes, getT, retV, Tryz.f69]
  obtain ⟨k, rfl, hk1, hk2⟩ := okW_nat hw
  have hn1 : ¬ (k : Int) < 1 := by omega
  have hn2 : ¬ 64 < (k : Int) := by omega
  have e : subL a b (k : Int) = if (meet (cutC a k) (cutC b k)).2 = true then subGo (cutC b k) k (cutC a k) else [cutC a k] := by simp [subL, hw]
  by_cases hs : sub (cutC a k) (cutC b k) = true
  · have e2 : subL a b (k : Int) = [] := by
      rw [e, if_pos (sub_meet hs)]
      simp only [sub, Bool.and_eq_true, decide_eq_true_eq] at hs
      exact subGo_sub hk2 hs.1
    rw [e2]
    refine PC.laxr (v := .sl true [] 0) ?_
    refine PC.walk tok mixed cfg0 Tryz.func69 rfl Tryz.call69 (by simp [belC, bel_Cs, bel_slC, belAll_append]) (by first | rfl | simp [belC, bel_Cs, bel_slC, belAll_append]) ?_; simp (config := { maxSteps := 2000000 }) -implicitDefEqProofs +contextual (disch := first | assumption | omega | decide +kernel) only [push_cast, ↓capI, br2_true, br2_false, frk_tt, frk_tf, frk_f, frkD_tt, frkD_tf, frkD_f, pk2_true, pk2_false, imp_true, seval, Nat.reduceLeDiff, Nat.reduceEqDiff, reduceCtorEq, ↓reduceIte, reduceCtorEq, encC, cfg0, ib_and, ib_or, ib_xor, ib_andNot, ib_not, w_ofInt, w_eqb, w_eqb0, w_inj, w_zero, w_wrap, BitVec.reduceOfInt, shl_bit, and_bit, Tryz.ntmps69]
    refine callG.pc1 (pc80 a k hk2) ?_
    simp (config := { maxSteps := 2000000 }) -implicitDefEqProofs +contextual (disch := first | assumption | omega | decide +kernel) only [push_cast, ↓capI, br2_true, br2_false, frk_tt, frk_tf, frk_f, frkD_tt, frkD_tf, frkD_f, pk2_true, pk2_false, imp_true, seval, Nat.reduceLeDiff, Nat.reduceEqDiff, reduceCtorEq, ↓reduceIte, reduceCtorEq, encC, cfg0, ib_and, ib_or, ib_xor, ib_andNot, ib_not, w_ofInt, w_eqb, w_eqb0, w_inj, w_zero, w_wrap, BitVec.reduceOfInt, shl_bit, and_bit]
    refine callG.pc1 (pc80 b k hk2) ?_
    simp (config := { maxSteps := 2000000 }) -implicitDefEqProofs +contextual (disch := first | assumption | omega | decide +kernel) only [push_cast, ↓capI, br2_true, br2_false, frk_tt, frk_tf, frk_f, frkD_tt, frkD_tf, frkD_f, pk2_true, pk2_false, imp_true, seval, Nat.reduceLeDiff, Nat.reduceEqDiff, reduceCtorEq, ↓reduceIte, reduceCtorEq, encC, cfg0, ib_and, ib_or, ib_xor, ib_andNot, ib_not, w_ofInt, w_eqb, w_eqb0, w_inj, w_zero, w_wrap, BitVec.reduceOfInt, shl_bit, and_bit]
    refine callO.pc (pc81 (cutC a k) (cutC b k)) ?_
    rw [hs]
    simp (config := { maxSteps := 2000000 }) -implicitDefEqProofs +contextual (disch := first | assumption | omega | decide +kernel) only [push_cast, ↓capI, br2_true, br2_false, frk_tt, frk_tf, frk_f, frkD_tt, frkD_tf, frkD_f, pk2_true, pk2_false, imp_true, seval, Nat.reduceLeDiff, Nat.reduceEqDiff, reduceCtorEq, ↓reduceIte, reduceCtorEq, encC, cfg0, ib_and, ib_or, ib_xor, ib_andNot, ib_not, w_ofInt, w_eqb, w_eqb0, w_inj, w_zero, w_wrap, BitVec.reduceOfInt, shl_bit, and_bit]
    refine endK.ret ?_ (by first | rfl | simp [belC, bel_Cs, bel_slC, belAll_append]); simp [evRes, getT, retV, Tryz.f69]
  have hsf : sub (cutC a k) (cutC b k) = false := by simpa using hs
  by_cases hm : (meet (cutC a k) (cutC b k)).2 = true
  case neg =>
    have hmf : (meet (cutC a k) (cutC b k)).2 = false := by simpa using hm
    rw [e, if_neg hm]
    refine PC.walk tok mixed cfg0 Tryz.func69 rfl Tryz.call69 (by simp [belC, bel_Cs, bel_slC, belAll_append]) (by first | rfl | simp [belC, bel_Cs, bel_slC, belAll_append]) ?_; simp (config := { maxSteps := 2000000 }) -implicitDefEqProofs +contextual (disch := first | assumption | omega | decide +kernel) only [push_cast, ↓capI, br2_true, br2_false, frk_tt, frk_tf, frk_f, frkD_tt, frkD_tf, frkD_f, pk2_true, pk2_false, imp_true, seval, Nat.reduceLeDiff, Nat.reduceEqDiff, reduceCtorEq, ↓reduceIte, reduceCtorEq, encC, cfg0, ib_and, ib_or, ib_xor, ib_andNot, ib_not, w_ofInt, w_eqb, w_eqb0, w_inj, w_zero, w_wrap, BitVec.reduceOfInt, shl_bit, and_bit, Tryz.ntmps69]
    refine callG.pc1 (pc80 a k hk2) ?_
    simp (config := { maxSteps := 2000000 }) -implicitDefEqProofs +contextual (disch := first | assumption | omega | decide +kernel) only [push_cast, ↓capI, br2_true, br2_false, frk_tt, frk_tf, frk_f, frkD_tt, frkD_tf, frkD_f, pk2_true, pk2_false, imp_true, seval, Nat.reduceLeDiff, Nat.reduceEqDiff, reduceCtorEq, ↓reduceIte, reduceCtorEq, encC, cfg0, ib_and, ib_or, ib_xor, ib_andNot, ib_not, w_ofInt, w_eqb, w_eqb0, w_inj, w_zero, w_wrap, BitVec.reduceOfInt, shl_bit, and_bit]
    refine callG.pc1 (pc80 b k hk2) ?_
    simp (config := { maxSteps := 2000000 }) -implicitDefEqProofs +contextual (disch := first | assumption | omega | decide +kernel) only [push_cast, ↓capI, br2_true, br2_false, frk_tt, frk_tf, frk_f, frkD_tt, frkD_tf, frkD_f, pk2_true, pk2_false, imp_true, seval, Nat.reduceLeDiff, Nat.reduceEqDiff, reduceCtorEq, ↓reduceIte, reduceCtorEq, encC, cfg0, ib_and, ib_or, ib_xor, ib_andNot, ib_not, w_ofInt, w_eqb, w_eqb0, w_inj, w_zero, w_wrap, BitVec.reduceOfInt, shl_bit, and_bit]
    refine callO.pc (pc81 (cutC a k) (cutC b k)) ?_
    rw [hsf]
    simp (config := { maxSteps := 2000000 }) -implicitDefEqProofs +contextual (disch := first | assumption | omega | decide +kernel) only [push_cast, ↓capI, br2_true, br2_false, frk_tt, frk_tf, frk_f, frkD_tt, frkD_tf, frkD_f, pk2_true, pk2_false, imp_true, seval, Nat.reduceLeDiff, Nat.reduceEqDiff, reduceCtorEq, ↓reduceIte, reduceCtorEq, encC, cfg0, ib_and, ib_or, ib_xor, ib_andNot, ib_not, w_ofInt, w_eqb, w_eqb0, w_inj, w_zero, w_wrap, BitVec.reduceOfInt, shl_bit, and_bit]
    refine callO.pc (pc58 (cutC a k) (cutC b k)) ?_
    simp (config := { maxSteps := 2000000 }) -implicitDefEqProofs +contextual (disch := first | assumption | omega | decide +kernel) only [push_cast, ↓capI, br2_true, br2_false, frk_tt, frk_tf, frk_f, frkD_tt, frkD_tf, frkD_f, pk2_true, pk2_false, imp_true, seval, Nat.reduceLeDiff, Nat.reduceEqDiff, reduceCtorEq, ↓reduceIte, reduceCtorEq, encC, cfg0, ib_and, ib_or, ib_xor, ib_andNot, ib_not, w_ofInt, w_eqb, w_eqb0, w_inj, w_zero, w_wrap, BitVec.reduceOfInt, shl_bit, and_bit, encCB, hmf]
    refine endK.gn (Gn.freeze (id := 5) rfl) ?_; refine endK.ret ?_ (by first | rfl | simp [belC, bel_Cs, bel_slC, belAll_append]); simp [belC, bel_Cs, bel_slC, belAll_append, fzs_ok, imp, lenOK_iff, List.take_of_length_le, evRes, getT, getO, setO, fzs, fz, fzH, Nat.beq, retV, Res.then, ldT, ldR, mkV, getV, tt_56, tt_43, tt_3, tt_4, tt_5, tt_26, tt_25, tt_74, tt_9, encC, cfg0, ib_and, ib_or, ib_xor, ib_andNot, ib_not, w_ofInt, w_eqb, w_eqb0, w_inj, w_zero, w_wrap, BitVec.reduceOfInt, shl_bit, and_bit, Tryz.f69,  slC, encC, cutC]
  rw [e, if_pos hm]
  refine PC.walk tok mixed cfg0 Tryz.func69 rfl Tryz.call69 (by simp [belC, bel_Cs, bel_slC, belAll_append]) (by first | rfl | simp [belC, bel_Cs, bel_slC, belAll_append]) ?_; simp (config := { maxSteps := 2000000 }) -implicitDefEqProofs +contextual (disch := first | assumption | omega | decide +kernel) only [push_cast, ↓capI, br2_true, br2_false, frk_tt, frk_tf, frk_f, frkD_tt, frkD_tf, frkD_f, pk2_true, pk2_false, imp_true, seval, Nat.reduceLeDiff, Nat.reduceEqDiff, reduceCtorEq, ↓reduceIte, reduceCtorEq, encC, cfg0, ib_and, ib_or, ib_xor, ib_andNot, ib_not, w_ofInt, w_eqb, w_eqb0, w_inj, w_zero, w_wrap, BitVec.reduceOfInt, shl_bit, and_bit, Tryz.ntmps69]
  refine callG.pc1 (pc80 a k hk2) ?_
  simp (config := { maxSteps := 2000000 }) -implicitDefEqProofs +contextual (disch := first | assumption | omega | decide +kernel) only [push_cast, ↓capI, br2_true, br2_false, frk_tt, frk_tf, frk_f, frkD_tt, frkD_tf, frkD_f, pk2_true, pk2_false, imp_true, seval, Nat.reduceLeDiff, Nat.reduceEqDiff, reduceCtorEq, ↓reduceIte, reduceCtorEq, encC, cfg0, ib_and, ib_or, ib_xor, ib_andNot, ib_not, w_ofInt, w_eqb, w_eqb0, w_inj, w_zero, w_wrap, BitVec.reduceOfInt, shl_bit, and_bit]
  refine callG.pc1 (pc80 b k hk2) ?_
  simp (config := { maxSteps := 2000000 }) -implicitDefEqProofs +contextual (disch := first | assumption | omega | decide +kernel) only [push_cast, ↓capI, br2_true, br2_false, frk_tt, frk_tf, frk_f, frkD_tt, frkD_tf, frkD_f, pk2_true, pk2_false, imp_true, seval, Nat.reduceLeDiff, Nat.reduceEqDiff, reduceCtorEq, ↓reduceIte, reduceCtorEq, encC, cfg0, ib_and, ib_or, ib_xor, ib_andNot, ib_not, w_ofInt, w_eqb, w_eqb0, w_inj, w_zero, w_wrap, BitVec.reduceOfInt, shl_bit, and_bit]
  refine callO.pc (pc81 (cutC a k) (cutC b k)) ?_
  rw [hsf]
  simp (config := { maxSteps := 2000000 }) -implicitDefEqProofs +contextual (disch := first | assumption | omega | decide +kernel) only [push_cast, ↓capI, br2_true, br2_false, frk_tt, frk_tf, frk_f, frkD_tt, frkD_tf, frkD_f, pk2_true, pk2_false, imp_true, seval, Nat.reduceLeDiff, Nat.reduceEqDiff, reduceCtorEq, ↓reduceIte, reduceCtorEq, encC, cfg0, ib_and, ib_or, ib_xor, ib_andNot, ib_not, w_ofInt, w_eqb, w_eqb0, w_inj, w_zero, w_wrap, BitVec.reduceOfInt, shl_bit, and_bit]
  refine callO.pc (pc58 (cutC a k) (cutC b k)) ?_
  simp (config := { maxSteps := 2000000 }) -implicitDefEqProofs +contextual (disch := first | assumption | omega | decide +kernel) only [push_cast, ↓capI, br2_true, br2_false, frk_tt, frk_tf, frk_f, frkD_tt, frkD_tf, frkD_f, pk2_true, pk2_false, imp_true, seval, Nat.reduceLeDiff, Nat.reduceEqDiff, reduceCtorEq, ↓reduceIte, reduceCtorEq, encC, cfg0, ib_and, ib_or, ib_xor, ib_andNot, ib_not, w_ofInt, w_eqb, w_eqb0, w_inj, w_zero, w_wrap, BitVec.reduceOfInt, shl_bit, and_bit, encCB, hm]
  refine T.lp tok mixed cfg0 (fun ((j, r, L, ver) : Nat × Cu × List Cu × Nat) => dd 7 (kp 2 (sv (.buf 5 ver 0 L.length 2) (dd 2 (sv (.int .i64 ((j : Int) - 1)) (dd 78 (nl))))))) (fun H0 ((j, r, L, ver) : Nat × Cu × List Cu × Nat) => [.cells 0 (encC a), .cells 0 (encC b), .cells 0 (encC r), .cells 0 (encC (cutC b k)), .cells 0 (encC (meet (cutC a k) (cutC b k)).1), .cells ver (L.flatMap encC)]) (fun ((j, r, L, ver) : Nat × Cu × List Cu × Nat) => j ≤ k ∧ L ++ subGo (cutC b k) j r = subGo (cutC b k) k (cutC a k)) (fun ((j, r, L, ver) : Nat × Cu × List Cu × Nat) => j) ((k, cutC a k, [], 0)) ?_ ?_ ?_
  · exact ⟨Nat.le_refl _, rfl⟩
  · refine (Gn.ownNil (t := 9) (sz := 2) rfl).trans ?_
    exact Gn.canon (J := []) (by first | rfl | (simp [List.append_nil]; done) | (simp [List.append_nil]; rfl)) (by simp [wk, putT, kp, dd, sv, nl]) (by simp [List.length_append]) (by simp [belC, bel_Cs, bel_slC, belAll_append, kp, dd, sv, nl]) (by simp [belC, bel_Cs, bel_slC, belAll_append])
  rintro ⟨j, r, L, ver⟩ ⟨hj, hL⟩
  have hlen : L.length ≤ 64 := by
    have h1 := congrArg List.length hL
    rw [List.length_append] at h1
    have := @subGo_len (cutC b k) k (cutC a k)
    omega
  cases j with
  | zero =>
    simp (config := { maxSteps := 2000000 }) -implicitDefEqProofs +contextual (disch := first | assumption | omega | decide +kernel) only [push_cast, ↓capI, br2_true, br2_false, frk_tt, frk_tf, frk_f, frkD_tt, frkD_tf, frkD_f, pk2_true, pk2_false, imp_true, seval, Nat.reduceLeDiff, Nat.reduceEqDiff, reduceCtorEq, ↓reduceIte, reduceCtorEq, encC, cfg0, ib_and, ib_or, ib_xor, ib_andNot, ib_not, w_ofInt, w_eqb, w_eqb0, w_inj, w_zero, w_wrap, BitVec.reduceOfInt, shl_bit, and_bit]
    have hL2 : L = subGo (cutC b k) k (cutC a k) := by
      rw [← hL]; simp [subGo]
    refine endK.gn (Gn.freeze (id := 5) rfl) ?_; refine endK.ret ?_ (by first | rfl | simp [belC, bel_Cs, bel_slC, belAll_append]); simp [belC, bel_Cs, bel_slC, belAll_append, fzs_ok, imp, lenOK_iff, List.take_of_length_le, evRes, getT, getO, setO, fzs, fz, fzH, Nat.beq, retV, Res.then, ldT, ldR, mkV, getV, tt_56, tt_43, tt_3, tt_4, tt_5, tt_26, tt_25, tt_74, tt_9, encC, cfg0, ib_and, ib_or, ib_xor, ib_andNot, ib_not, w_ofInt, w_eqb, w_eqb0, w_inj, w_zero, w_wrap, BitVec.reduceOfInt, shl_bit, and_bit, Tryz.f69,  slC, hL2, len_flat lenC]
  | succ j =>
    simp (config := { maxSteps := 2000000 }) -implicitDefEqProofs +contextual (disch := first | assumption | omega | decide +kernel) only [push_cast, ↓capI, br2_true, br2_false, frk_tt, frk_tf, frk_f, frkD_tt, frkD_tf, frkD_f, pk2_true, pk2_false, imp_true, seval, Nat.reduceLeDiff, Nat.reduceEqDiff, reduceCtorEq, ↓reduceIte, reduceCtorEq, encC, cfg0, ib_and, ib_or, ib_xor, ib_andNot, ib_not, w_ofInt, w_eqb, w_eqb0, w_inj, w_zero, w_wrap, BitVec.reduceOfInt, shl_bit, and_bit, Int.add_sub_cancel, len_flat lenC]
    have hj64 : j < 64 := by omega
    refine ⟨fun hb => ⟨fun hr => ?_, fun hr => ?_⟩, fun hb => ?_⟩
    · rw [subGo, if_pos (by simp [hb, hr])] at hL
      refine ⟨(j, nextR (cutC b k) r j, L ++ [piece (cutC b k) r j], ver + 1), ⟨by simp only; omega, by simp only [List.append_assoc, List.cons_append, List.nil_append]; exact hL⟩, by (try simp only); omega, ?_⟩
      exact Gn.canon (J := []) (by simp [encC, nextR, piece, not_bit]) (by simp [wk]) (by simp) (by simp [belC, bel_Cs, bel_slC, belAll_append]) (by simp [belC, bel_Cs, bel_slC, belAll_append])
    · rw [subGo, if_neg (by simp [hr])] at hL
      refine ⟨(j, r, L, ver), ⟨by simp only; omega, hL⟩, by (try simp only); omega, ?_⟩; exact Gn.canon (by first | rfl | (simp [List.append_nil]; rfl)) (by simp [wk]) (by simp [List.length_append]) (by simp [belC, bel_Cs, bel_slC, belAll_append]) (by simp [belC, bel_Cs, bel_slC, belAll_append])
    · rw [subGo, if_neg (by simp [hb])] at hL
      refine ⟨(j, r, L, ver), ⟨by simp only; omega, hL⟩, by (try simp only); omega, ?_⟩; exact Gn.canon (by first | rfl | (simp [List.append_nil]; rfl)) (by simp [wk]) (by simp [List.length_append]) (by simp [belC, bel_Cs, bel_slC, belAll_append]) (by simp [belC, bel_Cs, bel_slC, belAll_append])
end Go.Proofs.YtllfdnbnkncnhaaGreatDoor

/- Chapter 8: cubes that a list can do without. (the reference) -/
set_option maxRecDepth 100000
set_option maxHeartbeats 4000000
set_option linter.all false
namespace Go.Proofs.YtllfdnbnkncnhaaGreatDoor
open Go.Vm

theorem pc82 (l : List Cu) (i : Nat) (hi : i < l.length) (hl : l.length ≤ 4000000000000000000) : PC Tryz.prog 82 [slC l, .int .i64 i] (.bool (redund l i)) := by
  refine PC.walk tok mixed cfg0 Tryz.func82 rfl Tryz.call82 (by simp [belC, bel_Cs, bel_slC]) (by first | rfl | simp [belC, bel_Cs, bel_slC]) ?_; simp (config := { maxSteps := 2000000 }) -implicitDefEqProofs +contextual (disch := first | assumption | omega | decide +kernel) only [push_cast, ↓capI, br2_true, br2_false, frk_tt, frk_tf, frk_f, frkD_tt, frkD_tf, frkD_f, pk2_true, pk2_false, imp_true, seval, Nat.reduceLeDiff, Nat.reduceEqDiff, reduceCtorEq, ↓reduceIte, reduceCtorEq, encC, cfg0, slC, get_flat_part lenC, get_flat_drop lenC, len_flat lenC, ib_and, ib_or, ib_xor, ib_andNot, w_ofInt, w_eqb, w_eqb0, w_inj, w_zero, w_wrap, BitVec.reduceOfInt, Tryz.ntmps82]
  refine T.lp tok mixed cfg0 (fun (j : Nat) => kp 2 (dd 3 (sv (.int .i64 j) (dd 37 (nl))))) (fun H0 (j : Nat) => H0) (fun (j : Nat) => j ≤ l.length ∧ (List.range' j (l.length - j)).any (makes l i) = redund l i) (fun (j : Nat) => l.length - j) (0) ?_ ?_ ?_
  · exact ⟨Nat.zero_le _, rfl⟩
  · exact Gn.canon (J := []) (by first | rfl | (simp [List.append_nil]; done) | (simp [List.append_nil]; rfl)) (by simp [wk, slC, putT, kp, dd, sv, nl]) (by simp [List.length_append]) (by simp [belC, bel_Cs, bel_slC, kp, dd, sv, nl]) (by simp [belC, bel_Cs, bel_slC])
  rintro j ⟨hj, hr⟩
  simp (config := { maxSteps := 2000000 }) -implicitDefEqProofs +contextual (disch := first | assumption | omega | decide +kernel) only [push_cast, ↓capI, br2_true, br2_false, frk_tt, frk_tf, frk_f, frkD_tt, frkD_tf, frkD_f, pk2_true, pk2_false, imp_true, seval, Nat.reduceLeDiff, Nat.reduceEqDiff, reduceCtorEq, ↓reduceIte, reduceCtorEq, encC, cfg0, slC, get_flat_part lenC, get_flat_drop lenC, len_flat lenC, ib_and, ib_or, ib_xor, ib_andNot, w_ofInt, w_eqb, w_eqb0, w_inj, w_zero, w_wrap, BitVec.reduceOfInt]
  refine ⟨fun hlt => ?_, fun hge => ?_⟩
  · have hc := rany_cons hlt hr
    have ei := cat_at hi
    have ej := cat_at hlt
    by_cases he : j = i
    · have hm : makes l i j = false := by simp [makes, he]
      simp (config := { maxSteps := 2000000 }) -implicitDefEqProofs +contextual (disch := first | assumption | omega | decide +kernel) only [push_cast, ↓capI, br2_true, br2_false, frk_tt, frk_tf, frk_f, frkD_tt, frkD_tf, frkD_f, pk2_true, pk2_false, imp_true, seval, Nat.reduceLeDiff, Nat.reduceEqDiff, reduceCtorEq, ↓reduceIte, reduceCtorEq, encC, cfg0, slC, get_flat_part lenC, get_flat_drop lenC, len_flat lenC, ib_and, ib_or, ib_xor, ib_andNot, w_ofInt, w_eqb, w_eqb0, w_inj, w_zero, w_wrap, BitVec.reduceOfInt, he]
      subst he
      refine ⟨j + 1, ⟨hlt, hc.2 hm⟩, by (try simp only); omega, ?_⟩; exact Gn.canon (by first | rfl | (simp [List.append_nil]; rfl)) (by simp [wk, slC]) (by simp [List.length_append]) (by simp [belC, bel_Cs, bel_slC]) (by simp [belC, bel_Cs, bel_slC])
    have hin : ¬ (j : Int) = i := by omega
    have em : makes l i j = (sub l[i] l[j] && (decide (j < i) || !sub l[j] l[i])) := by simp [makes, he, ei, ej]
    simp (config := { maxSteps := 2000000 }) -implicitDefEqProofs +contextual (disch := first | assumption | omega | decide +kernel) only [push_cast, ↓capI, br2_true, br2_false, frk_tt, frk_tf, frk_f, frkD_tt, frkD_tf, frkD_f, pk2_true, pk2_false, imp_true, seval, Nat.reduceLeDiff, Nat.reduceEqDiff, reduceCtorEq, ↓reduceIte, reduceCtorEq, encC, cfg0, slC, get_flat_part lenC, get_flat_drop lenC, len_flat lenC, ib_and, ib_or, ib_xor, ib_andNot, w_ofInt, w_eqb, w_eqb0, w_inj, w_zero, w_wrap, BitVec.reduceOfInt, hin]
    refine callG.pc1 (pc81 l[i] l[j]) ?_
    cases h1 : sub l[i] l[j]
    · have hm : makes l i j = false := by rw [em, h1]; rfl
      simp (config := { maxSteps := 2000000 }) -implicitDefEqProofs +contextual (disch := first | assumption | omega | decide +kernel) only [push_cast, ↓capI, br2_true, br2_false, frk_tt, frk_tf, frk_f, frkD_tt, frkD_tf, frkD_f, pk2_true, pk2_false, imp_true, seval, Nat.reduceLeDiff, Nat.reduceEqDiff, reduceCtorEq, ↓reduceIte, reduceCtorEq, encC, cfg0, slC, get_flat_part lenC, get_flat_drop lenC, len_flat lenC, ib_and, ib_or, ib_xor, ib_andNot, w_ofInt, w_eqb, w_eqb0, w_inj, w_zero, w_wrap, BitVec.reduceOfInt]
      refine ⟨j + 1, ⟨hlt, hc.2 hm⟩, by (try simp only); omega, ?_⟩; exact Gn.canon (by first | rfl | (simp [List.append_nil]; rfl)) (by simp [wk, slC]) (by simp [List.length_append]) (by simp [belC, bel_Cs, bel_slC]) (by simp [belC, bel_Cs, bel_slC])
    by_cases h3 : j < i
    · have hm : makes l i j = true := by rw [em, h1]; simp [h3]
      simp (config := { maxSteps := 2000000 }) -implicitDefEqProofs +contextual (disch := first | assumption | omega | decide +kernel) only [push_cast, ↓capI, br2_true, br2_false, frk_tt, frk_tf, frk_f, frkD_tt, frkD_tf, frkD_f, pk2_true, pk2_false, imp_true, seval, Nat.reduceLeDiff, Nat.reduceEqDiff, reduceCtorEq, ↓reduceIte, reduceCtorEq, encC, cfg0, slC, get_flat_part lenC, get_flat_drop lenC, len_flat lenC, ib_and, ib_or, ib_xor, ib_andNot, w_ofInt, w_eqb, w_eqb0, w_inj, w_zero, w_wrap, BitVec.reduceOfInt, h3]
      refine endK.ret ?_ (by first | rfl | simp [belC, bel_Cs, bel_slC]); simp [evRes, getT, retV, Tryz.f82,  hc.1 hm]
    simp (config := { maxSteps := 2000000 }) -implicitDefEqProofs +contextual (disch := first | assumption | omega | decide +kernel) only [push_cast, ↓capI, br2_true, br2_false, frk_tt, frk_tf, frk_f, frkD_tt, frkD_tf, frkD_f, pk2_true, pk2_false, imp_true, seval, Nat.reduceLeDiff, Nat.reduceEqDiff, reduceCtorEq, ↓reduceIte, reduceCtorEq, encC, cfg0, slC, get_flat_part lenC, get_flat_drop lenC, len_flat lenC, ib_and, ib_or, ib_xor, ib_andNot, w_ofInt, w_eqb, w_eqb0, w_inj, w_zero, w_wrap, BitVec.reduceOfInt, h3]
    refine callG.pc1 (pc81 l[j] l[i]) ?_
    cases h2 : sub l[j] l[i]
    · have hm : makes l i j = true := by rw [em, h1, h2]; simp
      simp (config := { maxSteps := 2000000 }) -implicitDefEqProofs +contextual (disch := first | assumption | omega | decide +kernel) only [push_cast, ↓capI, br2_true, br2_false, frk_tt, frk_tf, frk_f, frkD_tt, frkD_tf, frkD_f, pk2_true, pk2_false, imp_true, seval, Nat.reduceLeDiff, Nat.reduceEqDiff, reduceCtorEq, ↓reduceIte, reduceCtorEq, encC, cfg0, slC, get_flat_part lenC, get_flat_drop lenC, len_flat lenC, ib_and, ib_or, ib_xor, ib_andNot, w_ofInt, w_eqb, w_eqb0, w_inj, w_zero, w_wrap, BitVec.reduceOfInt]
      refine endK.ret ?_ (by first | rfl | simp [belC, bel_Cs, bel_slC]); simp [evRes, getT, retV, Tryz.f82,  hc.1 hm]
    · have hm : makes l i j = false := by rw [em, h1, h2]; simp [h3]
      simp (config := { maxSteps := 2000000 }) -implicitDefEqProofs +contextual (disch := first | assumption | omega | decide +kernel) only [push_cast, ↓capI, br2_true, br2_false, frk_tt, frk_tf, frk_f, frkD_tt, frkD_tf, frkD_f, pk2_true, pk2_false, imp_true, seval, Nat.reduceLeDiff, Nat.reduceEqDiff, reduceCtorEq, ↓reduceIte, reduceCtorEq, encC, cfg0, slC, get_flat_part lenC, get_flat_drop lenC, len_flat lenC, ib_and, ib_or, ib_xor, ib_andNot, w_ofInt, w_eqb, w_eqb0, w_inj, w_zero, w_wrap, BitVec.reduceOfInt]
      refine ⟨j + 1, ⟨hlt, hc.2 hm⟩, by (try simp only); omega, ?_⟩; exact Gn.canon (by first | rfl | (simp [List.append_nil]; rfl)) (by simp [wk, slC]) (by simp [List.length_append]) (by simp [belC, bel_Cs, bel_slC]) (by simp [belC, bel_Cs, bel_slC])
  · refine endK.ret ?_ (by first | rfl | simp [belC, bel_Cs, bel_slC]); simp [evRes, getT, retV, Tryz.f82,  rany_end hge hr]
end Go.Proofs.YtllfdnbnkncnhaaGreatDoor

/- Chapter 8: lists without needless cubes. (the reference) -/
set_option maxRecDepth 100000
set_option maxHeartbeats 4000000
set_option linter.all false
namespace Go.Proofs.YtllfdnbnkncnhaaGreatDoor
open Go.Vm

theorem pcj70 (l : List Cu) (hl : l.length ≤ 4000000000) : PCJ Tryz.prog 70 [slC l] (.buf 0 (simp8 l).length 0 (simp8 l).length 2) [.cells (simp8 l).length ((simp8 l).flatMap encC)] := by
  refine PCJ.walk tok mixed cfg0 Tryz.func70 rfl Tryz.call70 (by simp [belC, bel_Cs, bel_slC, belAll_append, bel_encLE]) ?_; simp (config := { maxSteps := 2000000 }) -implicitDefEqProofs +contextual (disch := first | assumption | omega | decide +kernel) only [push_cast, ↓capI, br2_true, br2_false, frk_tt, frk_tf, frk_f, frkD_tt, frkD_tf, frkD_f, pk2_true, pk2_false, imp_true, seval, Nat.reduceLeDiff, Nat.reduceEqDiff, reduceCtorEq, ↓reduceIte, reduceCtorEq, encC, cfg0, slC, get_flat_part lenC, get_flat_drop lenC, len_flat lenC, ib_and, ib_or, ib_xor, ib_andNot, w_ofInt, w_eqb, w_eqb0, w_inj, w_zero, w_wrap, BitVec.reduceOfInt, Tryz.ntmps70]
  refine T.lp tok mixed cfg0 (fun ((j, L) : Nat × List Cu) => kp 1 (dd 2 (sv (.buf 0 L.length 0 L.length 2) (sv (.int .i64 j) (dd 31 (nl)))))) (fun H0 ((j, L) : Nat × List Cu) => [.cells L.length (L.flatMap encC)]) (fun ((j, L) : Nat × List Cu) => j ≤ l.length ∧ L = simpTo l j) (fun ((j, L) : Nat × List Cu) => l.length - j) ((0, [])) ?_ ?_ ?_
  · exact ⟨Nat.zero_le _, rfl⟩
  · refine (Gn.ownNil (t := 3) (sz := 2) rfl).trans ?_
    exact Gn.canon (J := []) (by first | rfl | (simp [List.append_nil]; done) | (simp [List.append_nil]; rfl)) (by simp [wk, slC, putT, kp, dd, sv, nl]) (by simp [List.length_append]) (by simp [belC, bel_Cs, bel_slC, belAll_append, bel_encLE, kp, dd, sv, nl]) (by simp [belC, bel_Cs, bel_slC, belAll_append, bel_encLE])
  rintro ⟨j, L⟩ ⟨hj, hL⟩
  have hlen : L.length ≤ j := by rw [hL]; exact simpTo_len l j
  simp (config := { maxSteps := 2000000 }) -implicitDefEqProofs +contextual (disch := first | assumption | omega | decide +kernel) only [push_cast, ↓capI, br2_true, br2_false, frk_tt, frk_tf, frk_f, frkD_tt, frkD_tf, frkD_f, pk2_true, pk2_false, imp_true, seval, Nat.reduceLeDiff, Nat.reduceEqDiff, reduceCtorEq, ↓reduceIte, reduceCtorEq, encC, cfg0, slC, get_flat_part lenC, get_flat_drop lenC, len_flat lenC, ib_and, ib_or, ib_xor, ib_andNot, w_ofInt, w_eqb, w_eqb0, w_inj, w_zero, w_wrap, BitVec.reduceOfInt]
  refine ⟨fun hlt => ?_, fun hge => ?_⟩
  · refine callO.pc (pc82 l j hlt (by omega)) ?_
    cases hr : redund l j
    · have e := simpTo_no hr hlt
      rw [← hL] at e
      simp (config := { maxSteps := 2000000 }) -implicitDefEqProofs +contextual (disch := first | assumption | omega | decide +kernel) only [push_cast, ↓capI, br2_true, br2_false, frk_tt, frk_tf, frk_f, frkD_tt, frkD_tf, frkD_f, pk2_true, pk2_false, imp_true, seval, Nat.reduceLeDiff, Nat.reduceEqDiff, reduceCtorEq, ↓reduceIte, reduceCtorEq, encC, cfg0, slC, get_flat_part lenC, get_flat_drop lenC, len_flat lenC, ib_and, ib_or, ib_xor, ib_andNot, w_ofInt, w_eqb, w_eqb0, w_inj, w_zero, w_wrap, BitVec.reduceOfInt]
      refine ⟨(j + 1, L ++ [canon l[j]]), ⟨by simp only; omega, e.symm⟩, by (try simp only); omega, ?_⟩; exact Gn.canon (by first | rfl | (simp [List.append_nil, canon, encC]; rfl)) (by simp [wk, slC, canon, encC]) (by simp [List.length_append]) (by simp [belC, bel_Cs, bel_slC, belAll_append, bel_encLE]) (by simp [belC, bel_Cs, bel_slC, belAll_append, bel_encLE])
    · have e := simpTo_yes hr
      rw [← hL] at e
      simp (config := { maxSteps := 2000000 }) -implicitDefEqProofs +contextual (disch := first | assumption | omega | decide +kernel) only [push_cast, ↓capI, br2_true, br2_false, frk_tt, frk_tf, frk_f, frkD_tt, frkD_tf, frkD_f, pk2_true, pk2_false, imp_true, seval, Nat.reduceLeDiff, Nat.reduceEqDiff, reduceCtorEq, ↓reduceIte, reduceCtorEq, encC, cfg0, slC, get_flat_part lenC, get_flat_drop lenC, len_flat lenC, ib_and, ib_or, ib_xor, ib_andNot, w_ofInt, w_eqb, w_eqb0, w_inj, w_zero, w_wrap, BitVec.reduceOfInt]
      refine ⟨(j + 1, L), ⟨by simp only; omega, e.symm⟩, by (try simp only); omega, ?_⟩; exact Gn.canon (by first | rfl | (simp [List.append_nil]; rfl)) (by simp [wk, slC]) (by simp [List.length_append]) (by simp [belC, bel_Cs, bel_slC, belAll_append, bel_encLE]) (by simp [belC, bel_Cs, bel_slC, belAll_append, bel_encLE])
  · have e : L = simp8 l := by rw [hL, simp8, show j = l.length by omega]
    refine endJ.ret ([]) (by simp [belC, bel_Cs, bel_slC, belAll_append, bel_encLE, fzs_ok, getO, setO, fzs, fz, fzH, Nat.beq, tt_56, tt_43, tt_3, tt_4, tt_5, tt_26, tt_25, tt_74, tt_9, encC, cfg0, slC, get_flat_part lenC, get_flat_drop lenC, len_flat lenC, ib_and, ib_or, ib_xor, ib_andNot, w_ofInt, w_eqb, w_eqb0, w_inj, w_zero, w_wrap, BitVec.reduceOfInt, e]) (by simp [belC, bel_Cs, bel_slC, belAll_append, bel_encLE, fzs_ok, imp, lenOK_iff, List.take_of_length_le, evRes, getT, getO, setO, fzs, fz, fzH, Nat.beq, retV, Res.then, ldT, ldR, mkV, getV, tt_56, tt_43, tt_3, tt_4, tt_5, tt_26, tt_25, tt_74, tt_9, encC, cfg0, slC, get_flat_part lenC, get_flat_drop lenC, len_flat lenC, ib_and, ib_or, ib_xor, ib_andNot, w_ofInt, w_eqb, w_eqb0, w_inj, w_zero, w_wrap, BitVec.reduceOfInt, Tryz.f70, e]) (by first | rfl | simp [belC, bel_Cs, bel_slC, belAll_append, bel_encLE, e]) (by first | rfl | simp [belC, bel_Cs, bel_slC, belAll_append, bel_encLE, e])

theorem pcj59 (l : List Cu) (hl : l.length ≤ 4000000000) (h : (simp8 l).length ≤ 1024) : PCJ Tryz.prog 59 [slC l] (.tup [bufC 0 (simp8 l), .int .i64 0]) [.cells (simp8 l).length ((simp8 l).flatMap encC)] := by
  have h' : ¬ 1024 < (simp8 l).length := by omega
  have h2 : ¬ (1024 : Int) < ((simp8 l).length : Int) := by omega
  refine PCJ.walk tok mixed cfg0 Tryz.func59 rfl Tryz.call59 (by simp [belC, bel_Cs, bel_slC, belAll_append, bel_encLE]) ?_; simp (config := { maxSteps := 2000000 }) -implicitDefEqProofs +contextual (disch := first | assumption | omega | decide +kernel) only [push_cast, ↓capI, br2_true, br2_false, frk_tt, frk_tf, frk_f, frkD_tt, frkD_tf, frkD_f, pk2_true, pk2_false, imp_true, seval, Nat.reduceLeDiff, Nat.reduceEqDiff, reduceCtorEq, ↓reduceIte, reduceCtorEq, encC, cfg0, slC, get_flat_part lenC, get_flat_drop lenC, len_flat lenC, ib_and, ib_or, ib_xor, ib_andNot, w_ofInt, w_eqb, w_eqb0, w_inj, w_zero, w_wrap, BitVec.reduceOfInt, Tryz.ntmps59]
  refine callO.pcj (pcj70 l hl) ?_
  simp (config := { maxSteps := 2000000 }) -implicitDefEqProofs +contextual (disch := first | assumption | omega | decide +kernel) only [push_cast, ↓capI, br2_true, br2_false, frk_tt, frk_tf, frk_f, frkD_tt, frkD_tf, frkD_f, pk2_true, pk2_false, imp_true, seval, Nat.reduceLeDiff, Nat.reduceEqDiff, reduceCtorEq, ↓reduceIte, reduceCtorEq, encC, cfg0, slC, get_flat_part lenC, get_flat_drop lenC, len_flat lenC, ib_and, ib_or, ib_xor, ib_andNot, w_ofInt, w_eqb, w_eqb0, w_inj, w_zero, w_wrap, BitVec.reduceOfInt, shs_C, h', h2]
  refine endJ.ret ([]) (by simp [belC, bel_Cs, bel_slC, belAll_append, bel_encLE, fzs_ok, getO, setO, fzs, fz, fzH, Nat.beq, tt_56, tt_43, tt_3, tt_4, tt_5, tt_26, tt_25, tt_74, tt_9, encC, cfg0, slC, get_flat_part lenC, get_flat_drop lenC, len_flat lenC, ib_and, ib_or, ib_xor, ib_andNot, w_ofInt, w_eqb, w_eqb0, w_inj, w_zero, w_wrap, BitVec.reduceOfInt, bufC]) (by simp [belC, bel_Cs, bel_slC, belAll_append, bel_encLE, fzs_ok, imp, lenOK_iff, List.take_of_length_le, evRes, getT, getO, setO, fzs, fz, fzH, Nat.beq, retV, Res.then, ldT, ldR, mkV, getV, tt_56, tt_43, tt_3, tt_4, tt_5, tt_26, tt_25, tt_74, tt_9, encC, cfg0, slC, get_flat_part lenC, get_flat_drop lenC, len_flat lenC, ib_and, ib_or, ib_xor, ib_andNot, w_ofInt, w_eqb, w_eqb0, w_inj, w_zero, w_wrap, BitVec.reduceOfInt, Tryz.f59, bufC]) (by first | rfl | simp [belC, bel_Cs, bel_slC, belAll_append, bel_encLE, bufC]) (by first | rfl | simp [belC, bel_Cs, bel_slC, belAll_append, bel_encLE, bufC])
theorem pc59 (l : List Cu) (hl : l.length ≤ 4000000000) : PC Tryz.prog 59 [slC l] (encLE (fin8 l)) := by
  by_cases h : 1024 < (simp8 l).length
  · have h2 : (1024 : Int) < ((simp8 l).length : Int) := by omega
    rw [fin8, if_pos h]
    refine PC.laxr (v := .tup [.sl true [] 0, .int .i64 12]) ?_
    refine PC.walk tok mixed cfg0 Tryz.func59 rfl Tryz.call59 (by simp [belC, bel_Cs, bel_slC, belAll_append, bel_encLE]) (by first | rfl | simp [belC, bel_Cs, bel_slC, belAll_append, bel_encLE]) ?_; simp (config := { maxSteps := 2000000 }) -implicitDefEqProofs +contextual (disch := first | assumption | omega | decide +kernel) only [push_cast, ↓capI, br2_true, br2_false, frk_tt, frk_tf, frk_f, frkD_tt, frkD_tf, frkD_f, pk2_true, pk2_false, imp_true, seval, Nat.reduceLeDiff, Nat.reduceEqDiff, reduceCtorEq, ↓reduceIte, reduceCtorEq, encC, cfg0, slC, get_flat_part lenC, get_flat_drop lenC, len_flat lenC, ib_and, ib_or, ib_xor, ib_andNot, w_ofInt, w_eqb, w_eqb0, w_inj, w_zero, w_wrap, BitVec.reduceOfInt, Tryz.ntmps59]
    refine callO.pcj (pcj70 l hl) ?_
    simp (config := { maxSteps := 2000000 }) -implicitDefEqProofs +contextual (disch := first | assumption | omega | decide +kernel) only [push_cast, ↓capI, br2_true, br2_false, frk_tt, frk_tf, frk_f, frkD_tt, frkD_tf, frkD_f, pk2_true, pk2_false, imp_true, seval, Nat.reduceLeDiff, Nat.reduceEqDiff, reduceCtorEq, ↓reduceIte, reduceCtorEq, encC, cfg0, slC, get_flat_part lenC, get_flat_drop lenC, len_flat lenC, ib_and, ib_or, ib_xor, ib_andNot, w_ofInt, w_eqb, w_eqb0, w_inj, w_zero, w_wrap, BitVec.reduceOfInt, shs_C, h, h2]
    refine endK.ret ?_ (by first | rfl | simp [belC, bel_Cs, bel_slC, belAll_append, bel_encLE]); simp [evRes, getT, retV, Tryz.f59]
  · have h2 : ¬ (1024 : Int) < ((simp8 l).length : Int) := by omega
    rw [fin8, if_neg h]
    refine PC.walk tok mixed cfg0 Tryz.func59 rfl Tryz.call59 (by simp [belC, bel_Cs, bel_slC, belAll_append, bel_encLE]) (by first | rfl | simp [belC, bel_Cs, bel_slC, belAll_append, bel_encLE]) ?_; simp (config := { maxSteps := 2000000 }) -implicitDefEqProofs +contextual (disch := first | assumption | omega | decide +kernel) only [push_cast, ↓capI, br2_true, br2_false, frk_tt, frk_tf, frk_f, frkD_tt, frkD_tf, frkD_f, pk2_true, pk2_false, imp_true, seval, Nat.reduceLeDiff, Nat.reduceEqDiff, reduceCtorEq, ↓reduceIte, reduceCtorEq, encC, cfg0, slC, get_flat_part lenC, get_flat_drop lenC, len_flat lenC, ib_and, ib_or, ib_xor, ib_andNot, w_ofInt, w_eqb, w_eqb0, w_inj, w_zero, w_wrap, BitVec.reduceOfInt, Tryz.ntmps59]
    refine callO.pcj (pcj70 l hl) ?_
    simp (config := { maxSteps := 2000000 }) -implicitDefEqProofs +contextual (disch := first | assumption | omega | decide +kernel) only [push_cast, ↓capI, br2_true, br2_false, frk_tt, frk_tf, frk_f, frkD_tt, frkD_tf, frkD_f, pk2_true, pk2_false, imp_true, seval, Nat.reduceLeDiff, Nat.reduceEqDiff, reduceCtorEq, ↓reduceIte, reduceCtorEq, encC, cfg0, slC, get_flat_part lenC, get_flat_drop lenC, len_flat lenC, ib_and, ib_or, ib_xor, ib_andNot, w_ofInt, w_eqb, w_eqb0, w_inj, w_zero, w_wrap, BitVec.reduceOfInt, shs_C, h, h2]
    refine endK.gn (Gn.freeze (id := 0) rfl) ?_; refine endK.ret ?_ (by first | rfl | simp [belC, bel_Cs, bel_slC, belAll_append, bel_encLE]); simp [belC, bel_Cs, bel_slC, belAll_append, bel_encLE, fzs_ok, imp, lenOK_iff, List.take_of_length_le, evRes, getT, getO, setO, fzs, fz, fzH, Nat.beq, retV, Res.then, ldT, ldR, mkV, getV, tt_56, tt_43, tt_3, tt_4, tt_5, tt_26, tt_25, tt_74, tt_9, encC, cfg0, slC, get_flat_part lenC, get_flat_drop lenC, len_flat lenC, ib_and, ib_or, ib_xor, ib_andNot, w_ofInt, w_eqb, w_eqb0, w_inj, w_zero, w_wrap, BitVec.reduceOfInt, Tryz.f59,  encLE, slC, take_flat lenC]
end Go.Proofs.YtllfdnbnkncnhaaGreatDoor

/- Chapter 8: unions. (the reference) -/
set_option maxRecDepth 100000
set_option maxHeartbeats 4000000
set_option linter.all false
namespace Go.Proofs.YtllfdnbnkncnhaaGreatDoor
open Go.Vm

theorem pcE59 (l : List Cu) (hl : l.length ≤ 4000000000) (h : 1024 < (simp8 l).length) : PC Tryz.prog 59 [slC l] (.tup [.sl true [] 0, .int .i64 12]) := by
  have h2 : (1024 : Int) < ((simp8 l).length : Int) := by omega
  refine PC.walk tok mixed cfg0 Tryz.func59 rfl Tryz.call59 (by simp [belC, bel_Cs, bel_slC, belAll_append, bel_encLE]) (by first | rfl | simp [belC, bel_Cs, bel_slC, belAll_append, bel_encLE]) ?_; simp (config := { maxSteps := 2000000 }) -implicitDefEqProofs +contextual (disch := first | assumption | omega | decide +kernel) only [push_cast, ↓capI, br2_true, br2_false, frk_tt, frk_tf, frk_f, frkD_tt, frkD_tf, frkD_f, pk2_true, pk2_false, imp_true, seval, Nat.reduceLeDiff, Nat.reduceEqDiff, reduceCtorEq, ↓reduceIte, reduceCtorEq, encC, cfg0, slC, get_flat_part lenC, get_flat_drop lenC, len_flat lenC, ib_and, ib_or, ib_xor, ib_andNot, w_ofInt, w_eqb, w_eqb0, w_inj, w_zero, w_wrap, BitVec.reduceOfInt, ones_C, take_C, Tryz.ntmps59]
  refine callO.pcj (pcj70 l hl) ?_
  simp (config := { maxSteps := 2000000 }) -implicitDefEqProofs +contextual (disch := first | assumption | omega | decide +kernel) only [push_cast, ↓capI, br2_true, br2_false, frk_tt, frk_tf, frk_f, frkD_tt, frkD_tf, frkD_f, pk2_true, pk2_false, imp_true, seval, Nat.reduceLeDiff, Nat.reduceEqDiff, reduceCtorEq, ↓reduceIte, reduceCtorEq, encC, cfg0, slC, get_flat_part lenC, get_flat_drop lenC, len_flat lenC, ib_and, ib_or, ib_xor, ib_andNot, w_ofInt, w_eqb, w_eqb0, w_inj, w_zero, w_wrap, BitVec.reduceOfInt, ones_C, take_C, shs_C, h, h2]
  refine endK.ret ?_ (by first | rfl | simp [belC, bel_Cs, bel_slC, belAll_append, bel_encLE]); simp [evRes, getT, retV, Tryz.f59]
theorem pc40 (a b : List Cu) (ha : a.length ≤ 1000000) (hb : b.length ≤ 1000000) : PC Tryz.prog 40 [slC a, slC b] (encLE (fin8 (a ++ b))) := by
  have hl : (a ++ b).length ≤ 4000000000 := by rw [List.length_append]; omega
  by_cases h : 1024 < (simp8 (a ++ b)).length
  · rw [fin8, if_pos h]
    refine PC.laxr (v := .tup [.sl true [] 0, .int .i64 12]) ?_
    refine PC.walk tok mixed cfg0 Tryz.func40 rfl Tryz.call40 (by simp [belC, bel_Cs, bel_slC, belAll_append, bel_encLE]) (by first | rfl | simp [belC, bel_Cs, bel_slC, belAll_append, bel_encLE]) ?_; simp (config := { maxSteps := 2000000 }) -implicitDefEqProofs +contextual (disch := first | assumption | omega | decide +kernel) only [push_cast, ↓capI, br2_true, br2_false, frk_tt, frk_tf, frk_f, frkD_tt, frkD_tf, frkD_f, pk2_true, pk2_false, imp_true, seval, Nat.reduceLeDiff, Nat.reduceEqDiff, reduceCtorEq, ↓reduceIte, reduceCtorEq, encC, cfg0, slC, get_flat_part lenC, get_flat_drop lenC, len_flat lenC, ib_and, ib_or, ib_xor, ib_andNot, w_ofInt, w_eqb, w_eqb0, w_inj, w_zero, w_wrap, BitVec.reduceOfInt, ones_C, take_C, Tryz.ntmps40]
    refine callO.lent (J := []) (by rw [List.nil_append, List.append_nil, brw_ab]; exact (pcE59 (a ++ b) hl h).toJ rfl) (by rw [List.nil_append, List.append_nil, brw_ab]; simp [belC, bel_Cs, bel_slC, belAll_append, bel_encLE]) rfl rfl ?_
    simp (config := { maxSteps := 2000000 }) -implicitDefEqProofs +contextual (disch := first | assumption | omega | decide +kernel) only [push_cast, ↓capI, br2_true, br2_false, frk_tt, frk_tf, frk_f, frkD_tt, frkD_tf, frkD_f, pk2_true, pk2_false, imp_true, seval, Nat.reduceLeDiff, Nat.reduceEqDiff, reduceCtorEq, ↓reduceIte, reduceCtorEq, encC, cfg0, slC, get_flat_part lenC, get_flat_drop lenC, len_flat lenC, ib_and, ib_or, ib_xor, ib_andNot, w_ofInt, w_eqb, w_eqb0, w_inj, w_zero, w_wrap, BitVec.reduceOfInt, ones_C, take_C, V.sh, shs, shOs]
    refine endK.ret ?_ (by first | rfl | simp [belC, bel_Cs, bel_slC, belAll_append, bel_encLE]); simp [evRes, getT, retV, Tryz.f40]
  · rw [fin8, if_neg h]
    refine PC.walk tok mixed cfg0 Tryz.func40 rfl Tryz.call40 (by simp [belC, bel_Cs, bel_slC, belAll_append, bel_encLE]) (by first | rfl | simp [belC, bel_Cs, bel_slC, belAll_append, bel_encLE]) ?_; simp (config := { maxSteps := 2000000 }) -implicitDefEqProofs +contextual (disch := first | assumption | omega | decide +kernel) only [push_cast, ↓capI, br2_true, br2_false, frk_tt, frk_tf, frk_f, frkD_tt, frkD_tf, frkD_f, pk2_true, pk2_false, imp_true, seval, Nat.reduceLeDiff, Nat.reduceEqDiff, reduceCtorEq, ↓reduceIte, reduceCtorEq, encC, cfg0, slC, get_flat_part lenC, get_flat_drop lenC, len_flat lenC, ib_and, ib_or, ib_xor, ib_andNot, w_ofInt, w_eqb, w_eqb0, w_inj, w_zero, w_wrap, BitVec.reduceOfInt, ones_C, take_C, Tryz.ntmps40]
    refine callO.lent (by rw [List.nil_append, List.append_nil, brw_ab]; exact pcj59 (a ++ b) hl (by omega)) (by rw [List.nil_append, List.append_nil, brw_ab]; simp [belC, bel_Cs, bel_slC, belAll_append, bel_encLE]) rfl (by simp [pursO, Ob.pur, pur_C]) ?_
    simp (config := { maxSteps := 2000000 }) -implicitDefEqProofs +contextual (disch := first | assumption | omega | decide +kernel) only [push_cast, ↓capI, br2_true, br2_false, frk_tt, frk_tf, frk_f, frkD_tt, frkD_tf, frkD_f, pk2_true, pk2_false, imp_true, seval, Nat.reduceLeDiff, Nat.reduceEqDiff, reduceCtorEq, ↓reduceIte, reduceCtorEq, encC, cfg0, slC, get_flat_part lenC, get_flat_drop lenC, len_flat lenC, ib_and, ib_or, ib_xor, ib_andNot, w_ofInt, w_eqb, w_eqb0, w_inj, w_zero, w_wrap, BitVec.reduceOfInt, ones_C, take_C, V.sh, shs, shOs, bufC, Ob.sh, shs_C]
    refine endK.gn (Gn.freeze (id := 1) rfl) ?_; refine endK.ret ?_ (by first | rfl | simp [belC, bel_Cs, bel_slC, belAll_append, bel_encLE]); simp [belC, bel_Cs, bel_slC, belAll_append, bel_encLE, fzs_ok, imp, lenOK_iff, List.take_of_length_le, evRes, getT, getO, setO, fzs, fz, fzH, Nat.beq, retV, Res.then, ldT, ldR, mkV, getV, tt_56, tt_43, tt_3, tt_4, tt_5, tt_26, tt_25, tt_74, tt_9, encC, cfg0, slC, get_flat_part lenC, get_flat_drop lenC, len_flat lenC, ib_and, ib_or, ib_xor, ib_andNot, w_ofInt, w_eqb, w_eqb0, w_inj, w_zero, w_wrap, BitVec.reduceOfInt, ones_C, take_C, Tryz.f40,  encLE, slC, take_flat lenC]
end Go.Proofs.YtllfdnbnkncnhaaGreatDoor

/- Chapter 8: intersections. (the reference) -/
set_option maxRecDepth 100000
set_option maxHeartbeats 4000000
set_option linter.all false
namespace Go.Proofs.YtllfdnbnkncnhaaGreatDoor
open Go.Vm

theorem pcX39 (a b : List Cu) (ha : a.length ≤ 1000000) (hb : b.length ≤ 1000000) (v : V) (hv : (inter8 a b).2 = 0 → v = encLE (inter8 a b)) (hv2 : inter8 a b = ([], 12) → v = .tup [.sl true [] 0, .int .i64 12]) (hbel : ∀ n, v.bel n = true) :
    PC Tryz.prog 39 [slC a, slC b] v := by
  refine PC.walk tok mixed cfg0 Tryz.func39 rfl Tryz.call39 (by simp [belC, bel_Cs, bel_slC, belAll_append, bel_encLE, hbel]) (by first | rfl | simp [belC, bel_Cs, bel_slC, belAll_append, bel_encLE, hbel]) ?_; simp (config := { maxSteps := 2000000 }) -implicitDefEqProofs +contextual (disch := first | assumption | omega | decide +kernel) only [push_cast, ↓capI, br2_true, br2_false, frk_tt, frk_tf, frk_f, frkD_tt, frkD_tf, frkD_f, pk2_true, pk2_false, imp_true, seval, Nat.reduceLeDiff, Nat.reduceEqDiff, reduceCtorEq, ↓reduceIte, reduceCtorEq, encC, cfg0, slC, get_flat_part lenC, get_flat_drop lenC, len_flat lenC, ib_and, ib_or, ib_xor, ib_andNot, w_ofInt, w_eqb, w_eqb0, w_inj, w_zero, w_wrap, BitVec.reduceOfInt, encCB, Tryz.ntmps39]
  refine T.lp tok mixed cfg0 (fun ((i, L) : Nat × List Cu) => kp 2 (dd 4 (sv (.buf 0 L.length 0 L.length 2) (sv (.int .i64 i) (dd 44 (nl)))))) (fun H0 ((i, L) : Nat × List Cu) => [.cells L.length (L.flatMap encC)]) (fun ((i, L) : Nat × List Cu) => i ≤ a.length ∧ L.length ≤ 1024 ∧ interGo b (a.drop i) L = inter8 a b) (fun ((i, L) : Nat × List Cu) => a.length - i) ((0, [])) ?_ ?_ ?_
  · exact ⟨Nat.zero_le _, Nat.zero_le _, rfl⟩
  · refine (Gn.ownNil (t := 6) (sz := 2) rfl).trans ?_
    exact Gn.canon (J := []) (by first | rfl | (simp [List.append_nil]; done) | (simp [List.append_nil]; rfl)) (by simp [wk, slC, putT, kp, dd, sv, nl]) (by simp [List.length_append]) (by simp [belC, bel_Cs, bel_slC, belAll_append, bel_encLE, hbel, kp, dd, sv, nl]) (by simp [belC, bel_Cs, bel_slC, belAll_append, bel_encLE, hbel])
  rintro ⟨i, L⟩ ⟨hi, hL, hr⟩
  simp (config := { maxSteps := 2000000 }) -implicitDefEqProofs +contextual (disch := first | assumption | omega | decide +kernel) only [push_cast, ↓capI, br2_true, br2_false, frk_tt, frk_tf, frk_f, frkD_tt, frkD_tf, frkD_f, pk2_true, pk2_false, imp_true, seval, Nat.reduceLeDiff, Nat.reduceEqDiff, reduceCtorEq, ↓reduceIte, reduceCtorEq, encC, cfg0, slC, get_flat_part lenC, get_flat_drop lenC, len_flat lenC, ib_and, ib_or, ib_xor, ib_andNot, w_ofInt, w_eqb, w_eqb0, w_inj, w_zero, w_wrap, BitVec.reduceOfInt, encCB]
  refine ⟨fun hlt => ?_, fun hge => ?_⟩
  case refine_2 =>
    rw [List.drop_of_length_le (by omega), interGo] at hr
    rw [hv (by rw [← hr]), ← hr]
    refine endK.gn (Gn.freeze (id := 0) rfl) ?_; refine endK.ret ?_ (by first | rfl | simp [belC, bel_Cs, bel_slC, belAll_append, bel_encLE, hbel]); simp [belC, bel_Cs, bel_slC, belAll_append, bel_encLE, hbel, fzs_ok, imp, lenOK_iff, List.take_of_length_le, evRes, getT, getO, setO, fzs, fz, fzH, Nat.beq, retV, Res.then, ldT, ldR, mkV, getV, tt_56, tt_43, tt_3, tt_4, tt_5, tt_26, tt_25, tt_74, tt_9, encC, cfg0, slC, get_flat_part lenC, get_flat_drop lenC, len_flat lenC, ib_and, ib_or, ib_xor, ib_andNot, w_ofInt, w_eqb, w_eqb0, w_inj, w_zero, w_wrap, BitVec.reduceOfInt, encCB, Tryz.f39,  encLE, slC, take_flat lenC]
  refine T.lp tok mixed cfg0 (fun ((k, M) : Nat × List Cu) => kp 2 (dd 4 (sv (.buf 0 M.length 0 M.length 2) (kp 1 (sv (.int .i64 k) (dd 43 (nl))))))) (fun H0 ((k, M) : Nat × List Cu) => [.cells M.length (M.flatMap encC)]) (fun ((k, M) : Nat × List Cu) => k ≤ b.length ∧ M = L ++ meets a[i] (b.take k)) (fun ((k, M) : Nat × List Cu) => b.length - k) ((0, L)) ?_ ?_ ?_
  · exact ⟨Nat.zero_le _, by simp [meets]⟩
  · exact Gn.canon (J := []) (by first | rfl | (simp [List.append_nil]; done) | (simp [List.append_nil]; rfl)) (by simp [wk, slC, putT, kp, dd, sv, nl]) (by simp [List.length_append]) (by simp [belC, bel_Cs, bel_slC, belAll_append, bel_encLE, hbel, kp, dd, sv, nl]) (by simp [belC, bel_Cs, bel_slC, belAll_append, bel_encLE, hbel])
  rintro ⟨k, M⟩ ⟨hk, hM⟩
  have hMl : M.length ≤ 1001024 := by
    have := meets_len (x := a[i]) (b := b.take k)
    rw [hM, List.length_append]
    rw [List.length_take] at this
    omega
  simp (config := { maxSteps := 2000000 }) -implicitDefEqProofs +contextual (disch := first | assumption | omega | decide +kernel) only [push_cast, ↓capI, br2_true, br2_false, frk_tt, frk_tf, frk_f, frkD_tt, frkD_tf, frkD_f, pk2_true, pk2_false, imp_true, seval, Nat.reduceLeDiff, Nat.reduceEqDiff, reduceCtorEq, ↓reduceIte, reduceCtorEq, encC, cfg0, slC, get_flat_part lenC, get_flat_drop lenC, len_flat lenC, ib_and, ib_or, ib_xor, ib_andNot, w_ofInt, w_eqb, w_eqb0, w_inj, w_zero, w_wrap, BitVec.reduceOfInt, encCB]
  refine ⟨fun hlt2 => ?_, fun hge2 => ?_⟩
  · refine callG.pc1 (pc58 a[i] b[k]) ?_
    have e := meets_take (x := a[i]) hlt2
    cases hm : (meet a[i] b[k]).2
    · rw [hm] at e
      simp (config := { maxSteps := 2000000 }) -implicitDefEqProofs +contextual (disch := first | assumption | omega | decide +kernel) only [push_cast, ↓capI, br2_true, br2_false, frk_tt, frk_tf, frk_f, frkD_tt, frkD_tf, frkD_f, pk2_true, pk2_false, imp_true, seval, Nat.reduceLeDiff, Nat.reduceEqDiff, reduceCtorEq, ↓reduceIte, reduceCtorEq, encC, cfg0, slC, get_flat_part lenC, get_flat_drop lenC, len_flat lenC, ib_and, ib_or, ib_xor, ib_andNot, w_ofInt, w_eqb, w_eqb0, w_inj, w_zero, w_wrap, BitVec.reduceOfInt, encCB, hm]
      refine ⟨(k + 1, M), ⟨by simp only; omega, by simp [hM, e]⟩, by (try simp only); omega, ?_⟩; exact Gn.canon (by first | rfl | (simp [List.append_nil]; rfl)) (by simp [wk, slC]) (by simp [List.length_append]) (by simp [belC, bel_Cs, bel_slC, belAll_append, bel_encLE, hbel]) (by simp [belC, bel_Cs, bel_slC, belAll_append, bel_encLE, hbel])
    · rw [hm] at e
      simp (config := { maxSteps := 2000000 }) -implicitDefEqProofs +contextual (disch := first | assumption | omega | decide +kernel) only [push_cast, ↓capI, br2_true, br2_false, frk_tt, frk_tf, frk_f, frkD_tt, frkD_tf, frkD_f, pk2_true, pk2_false, imp_true, seval, Nat.reduceLeDiff, Nat.reduceEqDiff, reduceCtorEq, ↓reduceIte, reduceCtorEq, encC, cfg0, slC, get_flat_part lenC, get_flat_drop lenC, len_flat lenC, ib_and, ib_or, ib_xor, ib_andNot, w_ofInt, w_eqb, w_eqb0, w_inj, w_zero, w_wrap, BitVec.reduceOfInt, encCB, hm]
      refine ⟨(k + 1, M ++ [(meet a[i] b[k]).1]), ⟨by simp only; omega, by simp [hM, e]⟩, by (try simp only); omega, ?_⟩; exact Gn.canon (by first | rfl | (simp [List.append_nil, encC]; rfl)) (by simp [wk, slC, encC]) (by simp [List.length_append]) (by simp [belC, bel_Cs, bel_slC, belAll_append, bel_encLE, hbel]) (by simp [belC, bel_Cs, bel_slC, belAll_append, bel_encLE, hbel])
  have hMe : M = L ++ meets a[i] b := by rw [hM, List.take_of_length_le (by omega)]
  have hMl2 : M.length ≤ 4000000000 := by omega
  rw [List.drop_eq_getElem_cons hlt, interGo, ← hMe] at hr
  by_cases h : 1024 < (simp8 M).length
  · rw [if_pos h] at hr
    rw [hv2 hr.symm]
    refine callO.lent (J := []) (by rw [List.nil_append, List.append_nil, brw_a]; exact (pcE59 M hMl2 h).toJ rfl) (by rw [List.nil_append, List.append_nil, brw_a]; simp [belAll_cons, belAll_nil, bel_slC]) rfl rfl ?_
    simp (config := { maxSteps := 2000000 }) -implicitDefEqProofs +contextual (disch := first | assumption | omega | decide +kernel) only [push_cast, ↓capI, br2_true, br2_false, frk_tt, frk_tf, frk_f, frkD_tt, frkD_tf, frkD_f, pk2_true, pk2_false, imp_true, seval, Nat.reduceLeDiff, Nat.reduceEqDiff, reduceCtorEq, ↓reduceIte, reduceCtorEq, encC, cfg0, slC, get_flat_part lenC, get_flat_drop lenC, len_flat lenC, ib_and, ib_or, ib_xor, ib_andNot, w_ofInt, w_eqb, w_eqb0, w_inj, w_zero, w_wrap, BitVec.reduceOfInt, encCB, V.sh, shs, shOs]
    refine endK.ret ?_ (by first | rfl | simp [belC, bel_Cs, bel_slC, belAll_append, bel_encLE, hbel]); simp [evRes, getT, retV, Tryz.f39]
  · rw [if_neg h] at hr
    refine callO.lent (by rw [List.nil_append, List.append_nil, brw_a]; exact pcj59 M hMl2 (by omega)) (by rw [List.nil_append, List.append_nil, brw_a]; simp [belAll_cons, belAll_nil, bel_slC]) rfl (by simp [pursO, Ob.pur, pur_C]) ?_
    simp (config := { maxSteps := 2000000 }) -implicitDefEqProofs +contextual (disch := first | assumption | omega | decide +kernel) only [push_cast, ↓capI, br2_true, br2_false, frk_tt, frk_tf, frk_f, frkD_tt, frkD_tf, frkD_f, pk2_true, pk2_false, imp_true, seval, Nat.reduceLeDiff, Nat.reduceEqDiff, reduceCtorEq, ↓reduceIte, reduceCtorEq, encC, cfg0, slC, get_flat_part lenC, get_flat_drop lenC, len_flat lenC, ib_and, ib_or, ib_xor, ib_andNot, w_ofInt, w_eqb, w_eqb0, w_inj, w_zero, w_wrap, BitVec.reduceOfInt, encCB, V.sh, shs, shOs, bufC, Ob.sh, shs_C]
    refine ⟨(i + 1, simp8 M), ⟨by simp only; omega, by simp only; omega, hr⟩, by simp only; omega, (Gn.swap (i := 0) (j := 1) (Nat.zero_le _) (Nat.zero_le _) (by simp) (by simp)).trans ?_⟩
    exact Gn.canon (J := [.cells M.length (M.flatMap encC)]) (by simp [swpH, rnOs, setO, getO, Ob.rn, rns_C, encC, rns, V.rn]) (by simp [wk, slC, rns, V.rn, swp, rns_C, Nat.beq]) (by simp) (by simp [belC, bel_Cs, bel_slC, belAll_append, bel_encLE, hbel]) (by simp [belC, bel_Cs, bel_slC, belAll_append, bel_encLE, hbel])
theorem pc39 (a b : List Cu) (ha : a.length ≤ 1000000) (hb : b.length ≤ 1000000) : PC Tryz.prog 39 [slC a, slC b] (encLE (inter8 a b)) := by
  by_cases h : (inter8 a b).2 = 0
  · exact pcX39 a b ha hb _ (fun _ => rfl) (fun e => by rw [e] at h; cases h) (fun _ => bel_encLE)
  · have e := inter8_bad h
    have := PC.laxr (pcX39 a b ha hb (.tup [.sl true [] 0, .int .i64 12]) (fun h1 => absurd h1 h) (fun _ => rfl) (fun _ => rfl))
    rw [e]
    exact this
end Go.Proofs.YtllfdnbnkncnhaaGreatDoor

/- Chapter 8: lists of cubes cut to a width. (the reference) -/
set_option maxRecDepth 100000
set_option maxHeartbeats 4000000
set_option linter.all false
namespace Go.Proofs.YtllfdnbnkncnhaaGreatDoor
open Go.Vm

theorem low_nat {w : Nat} (h : w ≤ 64) : (low w).toNat = 2 ^ w - 1 := by
  rw [low, BitVec.toNat_ushiftRight, BitVec.toNat_allOnes, Nat.shiftRight_eq_div_pow]
  have e : (2 : Nat) ^ 64 = 2 ^ w * 2 ^ (64 - w) := by rw [← Nat.pow_add]; congr 1; omega
  have h0 : 0 < 2 ^ (64 - w) := Nat.two_pow_pos _
  have h1 : 0 < 2 ^ w := Nat.two_pow_pos _
  rw [e]
  apply Nat.div_eq_of_lt_le
  · rw [Nat.sub_mul, Nat.one_mul]; omega
  · rw [Nat.sub_add_cancel h1]; have : 0 < 2 ^ w * 2 ^ (64 - w) := Nat.mul_pos h1 h0; omega
theorem bit_mul {k : Nat} (h1 : 1 ≤ k) (h2 : k ≤ 64) : IntKind.u64.wrap (IntKind.u64.wrap (((bit (k - 1)).toNat : Int) * 2) - 1) = ((low k).toNat : Int) := by
  have e1 := w_mul (x := bit (k - 1)) (y := 2#64)
  have e2 := w_sub (x := bit (k - 1) * 2#64) (y := 1#64)
  have e3 : bit (k - 1) * 2#64 - 1#64 = low k := by
    apply BitVec.eq_of_toNat_eq
    have hp : 2 ^ k = 2 * 2 ^ (k - 1) := by rw [← Nat.pow_succ']; congr 1; omega
    have h3 : 2 ^ k ≤ 2 ^ 64 := Nat.pow_le_pow_right (by omega) h2
    have h4 : 1 ≤ 2 ^ (k - 1) := Nat.one_le_two_pow
    rw [low_nat h2, BitVec.toNat_sub, BitVec.toNat_mul, bit, BitVec.toNat_shiftLeft, Nat.shiftLeft_eq]
    simp only [BitVec.toNat_ofNat]
    omega
  rw [e3] at e2
  rw [show (((bit (k - 1)).toNat : Int) * 2) = ((bit (k - 1)).toNat : Int) * ((2#64).toNat : Int) from rfl, e1]
  exact e2
theorem pc68 (k : Nat) (h1 : 1 ≤ k) (h2 : k ≤ 64) : PC Tryz.prog 68 [.int .i64 k] (.int .u64 (low k).toNat) := by
  obtain ⟨q, rfl⟩ : ∃ q, k = q + 1 := ⟨k - 1, by omega⟩
  have e1 : IntKind.u64.wrap (q : Int) = q := by
    have := w_wrap (x := BitVec.ofNat 64 q)
    rw [BitVec.toNat_ofNat, Nat.mod_eq_of_lt (by omega)] at this
    exact this
  have e2 : (((q + 1 : Nat) : Int) - 1) = q := by omega
  have e3 := bit_mul h1 h2
  rw [Nat.add_sub_cancel] at e3
  refine PC.walk tok mixed cfg0 Tryz.func68 rfl Tryz.call68 (by simp [belC, bel_Cs, bel_slC, belAll_append, bel_encLE]) (by first | rfl | simp [belC, bel_Cs, bel_slC, belAll_append, bel_encLE]) ?_; simp (config := { maxSteps := 2000000 }) -implicitDefEqProofs +contextual (disch := first | assumption | omega | decide +kernel) only [push_cast, ↓capI, br2_true, br2_false, frk_tt, frk_tf, frk_f, frkD_tt, frkD_tf, frkD_f, pk2_true, pk2_false, imp_true, seval, Nat.reduceLeDiff, Nat.reduceEqDiff, reduceCtorEq, ↓reduceIte, reduceCtorEq, encC, cfg0, slC, get_flat_part lenC, get_flat_drop lenC, len_flat lenC, ib_and, ib_or, ib_xor, ib_andNot, w_ofInt, w_eqb, w_eqb0, w_inj, w_zero, w_wrap, BitVec.reduceOfInt, Tryz.ntmps68]
  refine endK.ret ?_ (by first | rfl | simp [belC, bel_Cs, bel_slC, belAll_append, bel_encLE]); simp [evRes, getT, retV, Tryz.f68,  e1, e2, e3, shl_bit]
end Go.Proofs.YtllfdnbnkncnhaaGreatDoor

/- Chapter 8: differences of lists of cubes; the reference's. (the reference) -/
set_option maxRecDepth 100000
set_option maxHeartbeats 4000000
set_option linter.all false
namespace Go.Proofs.YtllfdnbnkncnhaaGreatDoor
open Go.Vm

theorem brw_at {a : List Cu} {ver i : Nat} {os : List Ob} (h : getO os i = .cells ver (a.flatMap encC)) : brws os [.buf i ver 0 a.length 2] = [slC a] := by
  have hb : Nat.beq ver ver = true := Nat.beq_refl ver
  simp only [brws, brw, h, hb, List.drop_zero]
  rw [take_C]
  rfl
def ebad : Bool → Int
  | true => 12
  | false => 0
theorem pcX57 (a b : List Cu) (k : Nat) (h1 : 1 ≤ k) (h2 : k ≤ 64) (ha : a.length ≤ 1000000) (hb : b.length ≤ 1000000) (v : V) (hv : (subt8 a b k).2 = 0 → v = encLE (subt8 a b k)) (hv2 : subt8 a b k = ([], 12) → v = .tup [.sl true [] 0, .int .i64 12]) (hbel : ∀ n, v.bel n = true) :
    PC Tryz.prog 57 [slC a, slC b, .int .i64 k] v := by
  have hw : okW (k : Int) = true := by simp only [okW, Bool.and_eq_true, decide_eq_true_eq]; omega
  have e0 : subt8 a b k = if 1024 < (simp8 (a.map (cut0 k))).length then ([], 12) else subt8Go k b (simp8 (a.map (cut0 k))) := by simp [subt8, hw, simp8_cut0]
  have hn1 : ¬ (k : Int) < 1 := by omega
  have hn2 : ¬ 64 < (k : Int) := by omega
  refine PC.walk tok mixed cfg0 Tryz.func57 rfl Tryz.call57 (by simp [belC, bel_Cs, bel_slC, belAll_append, bel_encLE, hbel]) (by first | rfl | simp [belC, bel_Cs, bel_slC, belAll_append, bel_encLE, hbel]) ?_; simp (config := { maxSteps := 2000000 }) -implicitDefEqProofs +contextual (disch := first | assumption | omega | decide +kernel) only [push_cast, ↓capI, br2_true, br2_false, frk_tt, frk_tf, frk_f, frkD_tt, frkD_tf, frkD_f, pk2_true, pk2_false, imp_true, seval, Nat.reduceLeDiff, Nat.reduceEqDiff, reduceCtorEq, ↓reduceIte, reduceCtorEq, encC, cfg0, slC, get_flat_part lenC, get_flat_drop lenC, len_flat lenC, ib_and, ib_or, ib_xor, ib_andNot, w_ofInt, w_eqb, w_eqb0, w_inj, w_zero, w_wrap, BitVec.reduceOfInt, encLE, zeros_C, Tryz.ntmps57]
  refine T.lp tok mixed cfg0 (fun ((i, L) : Nat × List Cu) => kp 3 (dd 5 (sv (.buf 0 L.length 0 L.length 2) (sv (.int .i64 i) (dd 75 (nl)))))) (fun H0 ((i, L) : Nat × List Cu) => [.cells L.length (L.flatMap encC)]) (fun ((i, L) : Nat × List Cu) => i ≤ a.length ∧ L = (a.take i).map (cut0 k)) (fun ((i, L) : Nat × List Cu) => a.length - i) ((0, [])) ?_ ?_ ?_
  · exact ⟨Nat.zero_le _, rfl⟩
  · refine (Gn.ownNil (t := 8) (sz := 2) rfl).trans ?_
    exact Gn.canon (J := []) (by first | rfl | (simp [List.append_nil]; done) | (simp [List.append_nil]; rfl)) (by simp [wk, slC, putT, kp, dd, sv, nl]) (by simp [List.length_append]) (by simp [belC, bel_Cs, bel_slC, belAll_append, bel_encLE, hbel, kp, dd, sv, nl]) (by simp [belC, bel_Cs, bel_slC, belAll_append, bel_encLE, hbel])
  rintro ⟨i, L⟩ ⟨hi, hLe⟩
  have hLl : L.length ≤ 1000000 := by rw [hLe, List.length_map, List.length_take]; omega
  simp (config := { maxSteps := 2000000 }) -implicitDefEqProofs +contextual (disch := first | assumption | omega | decide +kernel) only [push_cast, ↓capI, br2_true, br2_false, frk_tt, frk_tf, frk_f, frkD_tt, frkD_tf, frkD_f, pk2_true, pk2_false, imp_true, seval, Nat.reduceLeDiff, Nat.reduceEqDiff, reduceCtorEq, ↓reduceIte, reduceCtorEq, encC, cfg0, slC, get_flat_part lenC, get_flat_drop lenC, len_flat lenC, ib_and, ib_or, ib_xor, ib_andNot, w_ofInt, w_eqb, w_eqb0, w_inj, w_zero, w_wrap, BitVec.reduceOfInt, encLE, zeros_C]
  refine ⟨fun hlt => ?_, fun hge => ?_⟩
  · refine callG.pc1 (pc68 k h1 h2) ?_
    simp (config := { maxSteps := 2000000 }) -implicitDefEqProofs +contextual (disch := first | assumption | omega | decide +kernel) only [push_cast, ↓capI, br2_true, br2_false, frk_tt, frk_tf, frk_f, frkD_tt, frkD_tf, frkD_f, pk2_true, pk2_false, imp_true, seval, Nat.reduceLeDiff, Nat.reduceEqDiff, reduceCtorEq, ↓reduceIte, reduceCtorEq, encC, cfg0, slC, get_flat_part lenC, get_flat_drop lenC, len_flat lenC, ib_and, ib_or, ib_xor, ib_andNot, w_ofInt, w_eqb, w_eqb0, w_inj, w_zero, w_wrap, BitVec.reduceOfInt, encLE, zeros_C]
    refine ⟨(i + 1, L ++ [cut0 k a[i]]), ⟨by simp only; omega, by rw [List.take_succ_eq_append_getElem hlt, List.map_append, hLe]; rfl⟩, by (try simp only); omega, ?_⟩; exact Gn.canon (by first | rfl | (simp [List.append_nil, encC, cut0]; rfl)) (by simp [wk, slC, encC, cut0]) (by simp [List.length_append]) (by simp [belC, bel_Cs, bel_slC, belAll_append, bel_encLE, hbel]) (by simp [belC, bel_Cs, bel_slC, belAll_append, bel_encLE, hbel])
  have hLa : L = a.map (cut0 k) := by rw [hLe, List.take_of_length_le (by omega)]
  rw [← hLa] at e0
  have hml : L.length ≤ 4000000000 := by omega
  by_cases h0 : 1024 < (simp8 L).length
  · rw [if_pos h0] at e0
    rw [hv2 e0]
    refine callO.lent (J := []) (by rw [List.nil_append, List.append_nil, brw_a]; exact (pcE59 L hml h0).toJ rfl) (by rw [List.nil_append, List.append_nil, brw_a]; simp [belAll_cons, belAll_nil, bel_slC]) rfl rfl ?_
    simp (config := { maxSteps := 2000000 }) -implicitDefEqProofs +contextual (disch := first | assumption | omega | decide +kernel) only [push_cast, ↓capI, br2_true, br2_false, frk_tt, frk_tf, frk_f, frkD_tt, frkD_tf, frkD_f, pk2_true, pk2_false, imp_true, seval, Nat.reduceLeDiff, Nat.reduceEqDiff, reduceCtorEq, ↓reduceIte, reduceCtorEq, encC, cfg0, slC, get_flat_part lenC, get_flat_drop lenC, len_flat lenC, ib_and, ib_or, ib_xor, ib_andNot, w_ofInt, w_eqb, w_eqb0, w_inj, w_zero, w_wrap, BitVec.reduceOfInt, encLE, zeros_C, V.sh, shs, shOs]
    refine T.lp tok mixed cfg0 (fun (i : Nat) => dd 1 (kp 2 (dd 5 (sv (.sl true [] 0) (dd 1 (sv (.int .i64 12) (sv (.int .i64 i) (dd 73 (nl))))))))) (fun H0 (i : Nat) => H0) (fun (i : Nat) => i = 0) (fun (i : Nat) => 0) (0) ?_ ?_ ?_
    · rfl
    · exact Gn.canon (J := []) (by first | rfl | (simp [List.append_nil]; done) | (simp [List.append_nil]; rfl)) (by simp [wk, slC, putT, kp, dd, sv, nl]) (by simp [List.length_append]) (by simp [belC, bel_Cs, bel_slC, belAll_append, bel_encLE, hbel, kp, dd, sv, nl]) (by simp [belC, bel_Cs, bel_slC, belAll_append, bel_encLE, hbel])
    intro i hi
    subst hi
    simp (config := { maxSteps := 2000000 }) -implicitDefEqProofs +contextual (disch := first | assumption | omega | decide +kernel) only [push_cast, ↓capI, br2_true, br2_false, frk_tt, frk_tf, frk_f, frkD_tt, frkD_tf, frkD_f, pk2_true, pk2_false, imp_true, seval, Nat.reduceLeDiff, Nat.reduceEqDiff, reduceCtorEq, ↓reduceIte, reduceCtorEq, encC, cfg0, slC, get_flat_part lenC, get_flat_drop lenC, len_flat lenC, ib_and, ib_or, ib_xor, ib_andNot, w_ofInt, w_eqb, w_eqb0, w_inj, w_zero, w_wrap, BitVec.reduceOfInt, encLE, zeros_C]
    refine ⟨fun _ => ?_, fun _ => ?_⟩
    · refine endK.ret ?_ (by first | rfl | simp [belC, bel_Cs, bel_slC, belAll_append, bel_encLE, hbel]); simp [evRes, getT, retV, Tryz.f57]
    · refine endK.ret ?_ (by first | rfl | simp [belC, bel_Cs, bel_slC, belAll_append, bel_encLE, hbel]); simp [evRes, getT, retV, Tryz.f57]
  rw [if_neg h0] at e0
  refine callO.lent (by rw [List.nil_append, List.append_nil, brw_a]; exact pcj59 L hml (by omega)) (by rw [List.nil_append, List.append_nil, brw_a]; simp [belAll_cons, belAll_nil, bel_slC]) rfl (by simp [pursO, Ob.pur, pur_C]) ?_
  simp (config := { maxSteps := 2000000 }) -implicitDefEqProofs +contextual (disch := first | assumption | omega | decide +kernel) only [push_cast, ↓capI, br2_true, br2_false, frk_tt, frk_tf, frk_f, frkD_tt, frkD_tf, frkD_f, pk2_true, pk2_false, imp_true, seval, Nat.reduceLeDiff, Nat.reduceEqDiff, reduceCtorEq, ↓reduceIte, reduceCtorEq, encC, cfg0, slC, get_flat_part lenC, get_flat_drop lenC, len_flat lenC, ib_and, ib_or, ib_xor, ib_andNot, w_ofInt, w_eqb, w_eqb0, w_inj, w_zero, w_wrap, BitVec.reduceOfInt, encLE, zeros_C, V.sh, shs, shOs, bufC, Ob.sh, shs_C]
  refine T.lp tok mixed cfg0 (fun ((i, S, bad) : Nat × List Cu × Bool) => dd 1 (kp 2 (dd 5 (sv (.sl bad (S.flatMap encC) S.length) (dd 1 (sv (.int .i64 (ebad bad)) (sv (.int .i64 i) (dd 73 (nl))))))))) (fun H0 ((i, S, bad) : Nat × List Cu × Bool) => [.cells L.length (L.flatMap encC), .dead]) (fun ((i, S, bad) : Nat × List Cu × Bool) => i ≤ b.length ∧ S.length ≤ 1024 ∧ (bad = false → subt8Go k (b.drop i) S = subt8 a b k) ∧ (bad = true → S = [] ∧ subt8 a b k = ([], 12))) (fun ((i, S, bad) : Nat × List Cu × Bool) => b.length - i) ((0, simp8 L, false)) ?_ ?_ ?_
  · exact ⟨Nat.zero_le _, by (try simp only); omega, fun _ => e0.symm, (fun h => by cases h)⟩
  · refine (Gn.freeze (id := 1) rfl).trans ?_
    exact Gn.canon (J := []) (by first | rfl | (simp [fzs, fz, fzs_ok, fzH, setO, getO, Nat.beq, List.take_of_length_le, belC, bel_Cs, bel_slC, belAll_append, bel_encLE, hbel]; done)) (by simp [wk, slC, putT, kp, dd, sv, nl, fzs, fz, fzs_ok, fzH, setO, getO, Nat.beq, List.take_of_length_le, belC, bel_Cs, bel_slC, belAll_append, bel_encLE, hbel, take_C, ebad]) (by simp) (by simp [belC, bel_Cs, bel_slC, belAll_append, bel_encLE, hbel, kp, dd, sv, nl]) (by simp [belC, bel_Cs, bel_slC, belAll_append, bel_encLE, hbel])
  rintro ⟨i, S, bad⟩ ⟨hi, hS, hr, hr2⟩
  cases bad
  case true =>
    obtain ⟨rfl, hr3⟩ := hr2 rfl
    rw [hv2 hr3]
    simp (config := { maxSteps := 2000000 }) -implicitDefEqProofs +contextual (disch := first | assumption | omega | decide +kernel) only [push_cast, ↓capI, br2_true, br2_false, frk_tt, frk_tf, frk_f, frkD_tt, frkD_tf, frkD_f, pk2_true, pk2_false, imp_true, seval, Nat.reduceLeDiff, Nat.reduceEqDiff, reduceCtorEq, ↓reduceIte, reduceCtorEq, encC, cfg0, slC, get_flat_part lenC, get_flat_drop lenC, len_flat lenC, ib_and, ib_or, ib_xor, ib_andNot, w_ofInt, w_eqb, w_eqb0, w_inj, w_zero, w_wrap, BitVec.reduceOfInt, encLE, zeros_C, ebad]
    refine ⟨fun _ => ?_, fun _ => ?_⟩
    · refine endK.ret ?_ (by first | rfl | simp [belC, bel_Cs, bel_slC, belAll_append, bel_encLE, hbel]); simp [evRes, getT, retV, Tryz.f57]
    · refine endK.ret ?_ (by first | rfl | simp [belC, bel_Cs, bel_slC, belAll_append, bel_encLE, hbel]); simp [evRes, getT, retV, Tryz.f57]
  replace hr := hr rfl
  simp (config := { maxSteps := 2000000 }) -implicitDefEqProofs +contextual (disch := first | assumption | omega | decide +kernel) only [push_cast, ↓capI, br2_true, br2_false, frk_tt, frk_tf, frk_f, frkD_tt, frkD_tf, frkD_f, pk2_true, pk2_false, imp_true, seval, Nat.reduceLeDiff, Nat.reduceEqDiff, reduceCtorEq, ↓reduceIte, reduceCtorEq, encC, cfg0, slC, get_flat_part lenC, get_flat_drop lenC, len_flat lenC, ib_and, ib_or, ib_xor, ib_andNot, w_ofInt, w_eqb, w_eqb0, w_inj, w_zero, w_wrap, BitVec.reduceOfInt, encLE, zeros_C, ebad]
  refine ⟨fun hlt => ?_, fun hge => ?_⟩
  case refine_2 =>
    rw [List.drop_of_length_le (by omega), subt8Go] at hr
    rw [hv (by rw [← hr]), ← hr]
    refine endK.ret ?_ (by first | rfl | simp [belC, bel_Cs, bel_slC, belAll_append, bel_encLE, hbel]); simp [belC, bel_Cs, bel_slC, belAll_append, bel_encLE, hbel, fzs_ok, imp, lenOK_iff, List.take_of_length_le, evRes, getT, getO, setO, fzs, fz, fzH, Nat.beq, retV, Res.then, ldT, ldR, mkV, getV, tt_56, tt_43, tt_3, tt_4, tt_5, tt_26, tt_25, tt_74, tt_9, tt_93, encC, cfg0, slC, get_flat_part lenC, get_flat_drop lenC, len_flat lenC, ib_and, ib_or, ib_xor, ib_andNot, w_ofInt, w_eqb, w_eqb0, w_inj, w_zero, w_wrap, BitVec.reduceOfInt, encLE, zeros_C, Tryz.f57,  encLE, slC, take_flat lenC]
  refine T.lp tok mixed cfg0 (fun ((j, M) : Nat × List Cu) => dd 1 (kp 2 (dd 5 (kp 1 (dd 2 (kp 1 (sv (.buf 2 j 0 M.length 2) (sv (.int .i64 j) (dd 71 (nl)))))))))) (fun H0 ((j, M) : Nat × List Cu) => [.cells L.length (L.flatMap encC), .dead, .cells j (M.flatMap encC)]) (fun ((j, M) : Nat × List Cu) => j ≤ S.length ∧ M = outs (S.take j) b[i] k) (fun ((j, M) : Nat × List Cu) => S.length - j) ((0, [])) ?_ ?_ ?_
  · exact ⟨Nat.zero_le _, rfl⟩
  · refine (Gn.ownNil (t := 12) (sz := 2) rfl).trans ?_
    exact Gn.canon (J := []) (by first | rfl | (simp [List.append_nil]; done) | (simp [List.append_nil]; rfl)) (by simp [wk, slC, putT, kp, dd, sv, nl]) (by simp [List.length_append]) (by simp [belC, bel_Cs, bel_slC, belAll_append, bel_encLE, hbel, kp, dd, sv, nl]) (by simp [belC, bel_Cs, bel_slC, belAll_append, bel_encLE, hbel])
  rintro ⟨j, M⟩ ⟨hj, hM⟩
  have hMl : M.length ≤ 65536 := by
    have := outs_len (y := b[i]) (k := k) (l := S.take j)
    rw [hM]
    rw [List.length_take] at this
    omega
  simp (config := { maxSteps := 2000000 }) -implicitDefEqProofs +contextual (disch := first | assumption | omega | decide +kernel) only [push_cast, ↓capI, br2_true, br2_false, frk_tt, frk_tf, frk_f, frkD_tt, frkD_tf, frkD_f, pk2_true, pk2_false, imp_true, seval, Nat.reduceLeDiff, Nat.reduceEqDiff, reduceCtorEq, ↓reduceIte, reduceCtorEq, encC, cfg0, slC, get_flat_part lenC, get_flat_drop lenC, len_flat lenC, ib_and, ib_or, ib_xor, ib_andNot, w_ofInt, w_eqb, w_eqb0, w_inj, w_zero, w_wrap, BitVec.reduceOfInt, encLE, zeros_C]
  refine ⟨fun hlt2 => ?_, fun hge2 => ?_⟩
  · refine callG.pc1 (pc69 S[j] b[i] k) ?_
    have hD := subL_len (a := S[j]) (b := b[i]) (w := k)
    have e := outs_take (y := b[i]) (k := k) hlt2
    generalize subL S[j] b[i] (k : Int) = D at hD e ⊢
    have hle : M.length + D.length ≤ 68719476736 := by omega
    simp (config := { maxSteps := 2000000 }) -implicitDefEqProofs +contextual (disch := first | assumption | omega | decide +kernel) only [push_cast, ↓capI, br2_true, br2_false, frk_tt, frk_tf, frk_f, frkD_tt, frkD_tf, frkD_f, pk2_true, pk2_false, imp_true, seval, Nat.reduceLeDiff, Nat.reduceEqDiff, reduceCtorEq, ↓reduceIte, reduceCtorEq, encC, cfg0, slC, get_flat_part lenC, get_flat_drop lenC, len_flat lenC, ib_and, ib_or, ib_xor, ib_andNot, w_ofInt, w_eqb, w_eqb0, w_inj, w_zero, w_wrap, BitVec.reduceOfInt, encLE, zeros_C, take_C, ones_C, hle]
    refine ⟨(j + 1, M ++ D), ⟨by simp only; omega, by simp [hM, e]⟩, by (try simp only); omega, ?_⟩; exact Gn.canon (by first | rfl | (simp [List.append_nil, encC]; rfl)) (by simp [wk, slC, encC]) (by simp [List.length_append]) (by simp [belC, bel_Cs, bel_slC, belAll_append, bel_encLE, hbel]) (by simp [belC, bel_Cs, bel_slC, belAll_append, bel_encLE, hbel])
  have hMe : M = outs S b[i] k := by rw [hM, List.take_of_length_le (by omega)]
  have hMl2 : M.length ≤ 4000000000 := by omega
  rw [List.drop_eq_getElem_cons hlt, subt8Go, ← hMe] at hr
  by_cases h : 1024 < (simp8 M).length
  · rw [if_pos h] at hr
    refine callO.lent (J := []) (by rw [List.nil_append, List.append_nil, brw_at rfl]; exact (pcE59 M hMl2 h).toJ rfl) (by rw [List.nil_append, List.append_nil, brw_at rfl]; simp [belAll_cons, belAll_nil, bel_slC]) rfl rfl ?_
    simp (config := { maxSteps := 2000000 }) -implicitDefEqProofs +contextual (disch := first | assumption | omega | decide +kernel) only [push_cast, ↓capI, br2_true, br2_false, frk_tt, frk_tf, frk_f, frkD_tt, frkD_tf, frkD_f, pk2_true, pk2_false, imp_true, seval, Nat.reduceLeDiff, Nat.reduceEqDiff, reduceCtorEq, ↓reduceIte, reduceCtorEq, encC, cfg0, slC, get_flat_part lenC, get_flat_drop lenC, len_flat lenC, ib_and, ib_or, ib_xor, ib_andNot, w_ofInt, w_eqb, w_eqb0, w_inj, w_zero, w_wrap, BitVec.reduceOfInt, encLE, zeros_C, V.sh, shs, shOs]
    refine ⟨(i + 1, [], true), ⟨by (try simp only); omega, by simp, (fun h => by cases h), fun _ => ⟨rfl, hr.symm⟩⟩, by (try simp only); omega, ?_⟩; exact Gn.canon (by first | rfl | (simp [List.append_nil, ebad]; rfl)) (by simp [wk, slC, ebad]) (by simp [List.length_append]) (by simp [belC, bel_Cs, bel_slC, belAll_append, bel_encLE, hbel]) (by simp [belC, bel_Cs, bel_slC, belAll_append, bel_encLE, hbel])
  · rw [if_neg h] at hr
    refine callO.lent (by rw [List.nil_append, List.append_nil, brw_at rfl]; exact pcj59 M hMl2 (by omega)) (by rw [List.nil_append, List.append_nil, brw_at rfl]; simp [belAll_cons, belAll_nil, bel_slC]) rfl (by simp [pursO, Ob.pur, pur_C]) ?_
    simp (config := { maxSteps := 2000000 }) -implicitDefEqProofs +contextual (disch := first | assumption | omega | decide +kernel) only [push_cast, ↓capI, br2_true, br2_false, frk_tt, frk_tf, frk_f, frkD_tt, frkD_tf, frkD_f, pk2_true, pk2_false, imp_true, seval, Nat.reduceLeDiff, Nat.reduceEqDiff, reduceCtorEq, ↓reduceIte, reduceCtorEq, encC, cfg0, slC, get_flat_part lenC, get_flat_drop lenC, len_flat lenC, ib_and, ib_or, ib_xor, ib_andNot, w_ofInt, w_eqb, w_eqb0, w_inj, w_zero, w_wrap, BitVec.reduceOfInt, encLE, zeros_C, V.sh, shs, shOs, bufC, Ob.sh, shs_C]
    refine ⟨(i + 1, simp8 M, false), ⟨by (try simp only); omega, by (try simp only); omega, fun _ => hr, (fun h => by cases h)⟩, by (try simp only); omega, ?_⟩; refine (Gn.freeze (id := 3) rfl).trans ?_; exact Gn.canon (by first | rfl | (simp [List.append_nil, fzs, fz, fzs_ok, fzH, setO, getO, Nat.beq, List.take_of_length_le, belC, bel_Cs, bel_slC, belAll_append, bel_encLE, hbel, take_C, ebad]; done) | (simp [List.append_nil, fzs, fz, fzs_ok, fzH, setO, getO, Nat.beq, List.take_of_length_le, belC, bel_Cs, bel_slC, belAll_append, bel_encLE, hbel, take_C, ebad]; rfl)) (by simp [wk, slC, fzs, fz, fzs_ok, fzH, setO, getO, Nat.beq, List.take_of_length_le, belC, bel_Cs, bel_slC, belAll_append, bel_encLE, hbel, take_C, ebad, tt_56, tt_43, tt_3, tt_4, tt_5, tt_26, tt_25, tt_74, tt_9, tt_93, encC, cfg0, slC, get_flat_part lenC, get_flat_drop lenC, len_flat lenC, ib_and, ib_or, ib_xor, ib_andNot, w_ofInt, w_eqb, w_eqb0, w_inj, w_zero, w_wrap, BitVec.reduceOfInt, encLE, zeros_C]) (by simp [List.length_append]) (by simp [belC, bel_Cs, bel_slC, belAll_append, bel_encLE, hbel]) (by simp [belC, bel_Cs, bel_slC, belAll_append, bel_encLE, hbel])
theorem pc57 (a b : List Cu) (w : Int) (ha : a.length ≤ 1000000) (hb : b.length ≤ 1000000) : PC Tryz.prog 57 [slC a, slC b, .int .i64 w] (encLE (subt8 a b w)) := by
  by_cases hw : okW w = true
  · obtain ⟨k, rfl, h1, h2⟩ := okW_nat hw
    by_cases h : (subt8 a b k).2 = 0
    · exact pcX57 a b k h1 h2 ha hb _ (fun _ => rfl) (fun e => by rw [e] at h; cases h) (fun _ => bel_encLE)
    · have e := subt8_bad h1 h2 h
      have := PC.laxr (pcX57 a b k h1 h2 ha hb (.tup [.sl true [] 0, .int .i64 12]) (fun h1 => absurd h1 h) (fun _ => rfl) (fun _ => rfl))
      rw [e]
      exact this
  · have e : subt8 a b w = ([], 10) := by simp [subt8, hw]
    rw [e]
    refine PC.laxr (v := .tup [.sl true [] 0, .int .i64 10]) ?_
    have hw' := okW_not hw
    have hbel := True.intro
    by_cases h1 : w < 1
    · refine PC.walk tok mixed cfg0 Tryz.func57 rfl Tryz.call57 (by simp [belC, bel_Cs, bel_slC, belAll_append, bel_encLE, hbel]) (by first | rfl | simp [belC, bel_Cs, bel_slC, belAll_append, bel_encLE, hbel]) ?_; simp (config := { maxSteps := 2000000 }) -implicitDefEqProofs +contextual (disch := first | assumption | omega | decide +kernel) only [push_cast, ↓capI, br2_true, br2_false, frk_tt, frk_tf, frk_f, frkD_tt, frkD_tf, frkD_f, pk2_true, pk2_false, imp_true, seval, Nat.reduceLeDiff, Nat.reduceEqDiff, reduceCtorEq, ↓reduceIte, reduceCtorEq, encC, cfg0, slC, get_flat_part lenC, get_flat_drop lenC, len_flat lenC, ib_and, ib_or, ib_xor, ib_andNot, w_ofInt, w_eqb, w_eqb0, w_inj, w_zero, w_wrap, BitVec.reduceOfInt, encLE, zeros_C, Tryz.ntmps57]
      refine endK.ret ?_ (by first | rfl | simp [belC, bel_Cs, bel_slC, belAll_append, bel_encLE, hbel]); simp [evRes, getT, retV, Tryz.f57]
    · have h2 : 64 < w := by omega
      refine PC.walk tok mixed cfg0 Tryz.func57 rfl Tryz.call57 (by simp [belC, bel_Cs, bel_slC, belAll_append, bel_encLE, hbel]) (by first | rfl | simp [belC, bel_Cs, bel_slC, belAll_append, bel_encLE, hbel]) ?_; simp (config := { maxSteps := 2000000 }) -implicitDefEqProofs +contextual (disch := first | assumption | omega | decide +kernel) only [push_cast, ↓capI, br2_true, br2_false, frk_tt, frk_tf, frk_f, frkD_tt, frkD_tf, frkD_f, pk2_true, pk2_false, imp_true, seval, Nat.reduceLeDiff, Nat.reduceEqDiff, reduceCtorEq, ↓reduceIte, reduceCtorEq, encC, cfg0, slC, get_flat_part lenC, get_flat_drop lenC, len_flat lenC, ib_and, ib_or, ib_xor, ib_andNot, w_ofInt, w_eqb, w_eqb0, w_inj, w_zero, w_wrap, BitVec.reduceOfInt, encLE, zeros_C, Tryz.ntmps57]
      refine endK.ret ?_ (by first | rfl | simp [belC, bel_Cs, bel_slC, belAll_append, bel_encLE, hbel]); simp [evRes, getT, retV, Tryz.f57]
end Go.Proofs.YtllfdnbnkncnhaaGreatDoor

/- Chapter 8: complements, subsets, equal sets. (the reference) -/
set_option maxRecDepth 100000
set_option maxHeartbeats 4000000
set_option linter.all false
namespace Go.Proofs.YtllfdnbnkncnhaaGreatDoor
open Go.Vm

theorem pc37 (b : List Cu) (w : Int) (hb : b.length ≤ 1000000) : PC Tryz.prog 37 [slC b, .int .i64 w] (encLE (compl8 b w)) := by
  refine PC.walk tok mixed cfg0 Tryz.func37 rfl Tryz.call37 (by simp [belC, bel_Cs, bel_slC, belAll_append, bel_encLE]) (by first | rfl | simp [belC, bel_Cs, bel_slC, belAll_append, bel_encLE]) ?_; simp (config := { maxSteps := 2000000 }) -implicitDefEqProofs +contextual (disch := first | assumption | omega | decide +kernel) only [push_cast, ↓capI, br2_true, br2_false, frk_tt, frk_tf, frk_f, frkD_tt, frkD_tf, frkD_f, pk2_true, pk2_false, imp_true, seval, Nat.reduceLeDiff, Nat.reduceEqDiff, reduceCtorEq, ↓reduceIte, reduceCtorEq, encC, cfg0, slC, get_flat_part lenC, get_flat_drop lenC, len_flat lenC, ib_and, ib_or, ib_xor, ib_andNot, w_ofInt, w_eqb, w_eqb0, w_inj, w_zero, w_wrap, BitVec.reduceOfInt, encLE, Tryz.ntmps37]
  refine callO.pc (pc57 [⟨0#64, 0#64⟩] b w (by decide) hb) ?_
  simp (config := { maxSteps := 2000000 }) -implicitDefEqProofs +contextual (disch := first | assumption | omega | decide +kernel) only [push_cast, ↓capI, br2_true, br2_false, frk_tt, frk_tf, frk_f, frkD_tt, frkD_tf, frkD_f, pk2_true, pk2_false, imp_true, seval, Nat.reduceLeDiff, Nat.reduceEqDiff, reduceCtorEq, ↓reduceIte, reduceCtorEq, encC, cfg0, slC, get_flat_part lenC, get_flat_drop lenC, len_flat lenC, ib_and, ib_or, ib_xor, ib_andNot, w_ofInt, w_eqb, w_eqb0, w_inj, w_zero, w_wrap, BitVec.reduceOfInt, encLE]
  refine endK.ret ?_ (by first | rfl | simp [belC, bel_Cs, bel_slC, belAll_append, bel_encLE]); simp [evRes, getT, retV, Tryz.f37,  encLE, slC, compl8]
end Go.Proofs.YtllfdnbnkncnhaaGreatDoor

/- Chapters 7 and 8: equal lists of cubes. (the reference) -/
set_option maxRecDepth 100000
set_option maxHeartbeats 4000000
set_option linter.all false
namespace Go.Proofs.YtllfdnbnkncnhaaGreatDoor
open Go.Vm

theorem eqC2 {x y : Cu} : ((x.v.toNat : Int) == (y.v.toNat : Int) && ((x.m.toNat : Int) == (y.m.toNat : Int))) = decide (x = y) := by
  obtain ⟨a, b⟩ := x
  obtain ⟨c, d⟩ := y
  rw [w_eqb, w_eqb]
  simp
theorem pc9 (a b : List Cu) (hf : a.length ≤ 4000000000000000000) : PC Tryz.prog 9 [slC a, slC b] (.bool (decide (a = b))) := by
  refine PC.walk tok mixed cfg0 Tryz.func9 rfl Tryz.call9 (by simp [belC, bel_Cs, bel_slC]) (by first | rfl | simp [belC, bel_Cs, bel_slC]) ?_; simp (config := { maxSteps := 2000000 }) -implicitDefEqProofs +contextual (disch := first | assumption | omega | decide +kernel) only [push_cast, ↓capI, br2_true, br2_false, frk_tt, frk_tf, frk_f, frkD_tt, frkD_tf, frkD_f, pk2_true, pk2_false, imp_true, seval, Nat.reduceLeDiff, Nat.reduceEqDiff, reduceCtorEq, ↓reduceIte, reduceCtorEq, encC, cfg0, slC, get_flat_part lenC, get_flat_drop lenC, len_flat lenC, eqC2, Tryz.ntmps9]
  refine ⟨fun hl => ?_, fun hl => ?_⟩
  · have : a ≠ b := fun h => by simp [h] at hl
    refine endK.ret ?_ (by first | rfl | simp [belC, bel_Cs, bel_slC]); simp [evRes, getT, retV, Tryz.f9,  this]
  · have hl : a.length = b.length := by omega
    refine T.lp tok mixed cfg0 (fun (j : Nat) => kp 2 (dd 3 (sv (.int .i64 j) (dd 20 (nl))))) (fun H0 (j : Nat) => H0) (fun (j : Nat) => j ≤ a.length ∧ decide (a.drop j = b.drop j) = decide (a = b)) (fun (j : Nat) => a.length - j) (0) ?_ ?_ ?_
    · exact ⟨Nat.zero_le _, rfl⟩
    · exact Gn.canon (J := _) (by first | rfl | (simp [List.append_nil]; done) | (simp [List.append_nil]; rfl)) (by simp [wk, slC, putT, kp, dd, sv, nl]) (by simp [List.length_append]) (by simp [belC, bel_Cs, bel_slC, kp, dd, sv, nl]) (by simp [belC, bel_Cs, bel_slC])
    · rintro j ⟨hle, hj⟩
      simp (config := { maxSteps := 2000000 }) -implicitDefEqProofs +contextual (disch := first | assumption | omega | decide +kernel) only [push_cast, ↓capI, br2_true, br2_false, frk_tt, frk_tf, frk_f, frkD_tt, frkD_tf, frkD_f, pk2_true, pk2_false, imp_true, seval, Nat.reduceLeDiff, Nat.reduceEqDiff, reduceCtorEq, ↓reduceIte, reduceCtorEq, encC, cfg0, slC, get_flat_part lenC, get_flat_drop lenC, len_flat lenC, eqC2]
      refine ⟨fun hlt => ?_, fun hge => ?_⟩
      · have hc := deq_cons hlt (by omega) hj
        refine ⟨fun he => ?_, fun he => ?_⟩
        · refine endK.ret ?_ (by first | rfl | simp [belC, bel_Cs, bel_slC]); simp [evRes, getT, retV, Tryz.f9,  hc.1 he]
        · refine ⟨j + 1, ⟨by omega, hc.2 he⟩, by (try simp only); omega, ?_⟩; exact Gn.canon (by first | rfl | (simp [List.append_nil]; rfl)) (by simp [wk, slC]) (by simp [List.length_append]) (by simp [belC, bel_Cs, bel_slC]) (by simp [belC, bel_Cs, bel_slC])
      · refine endK.ret ?_ (by first | rfl | simp [belC, bel_Cs, bel_slC]); simp [evRes, getT, retV, Tryz.f9,  deq_end (by omega) (by omega) hj]
end Go.Proofs.YtllfdnbnkncnhaaGreatDoor

/- Chapter 44: the space of a predicate, by the reference. -/
set_option maxRecDepth 100000
set_option maxHeartbeats 4000000
set_option linter.all false
namespace Go.Proofs.YtllfdnbnkncnhaaGreatDoor
open Go.Vm

theorem place8_nat (v : UInt8) {i : Int} (hi : 0 ≤ i ∧ i ≤ 2) : (place8 v i).toNat = v.toNat * 256 ^ (2 - i).toNat := by
  have hv := v.toNat_lt
  have h3 : i = 0 ∨ i = 1 ∨ i = 2 := by omega
  rw [place8, BitVec.toNat_shiftLeft, BitVec.toNat_ofNat, Nat.mod_eq_of_lt (by omega : v.toNat < 2 ^ 64), Nat.shiftLeft_eq]
  rcases h3 with rfl | rfl | rfl
  · show v.toNat * 2 ^ 16 % 2 ^ 64 = v.toNat * 256 ^ 2
    omega
  · show v.toNat * 2 ^ 8 % 2 ^ 64 = v.toNat * 256 ^ 1
    omega
  · show v.toNat * 2 ^ 0 % 2 ^ 64 = v.toNat * 256 ^ 0
    omega
theorem pc36 (v : UInt8) (i : Int) (hi : 0 ≤ i ∧ i ≤ 2) : PC Tryz.prog 36 [.int .u8 v.toNat, .int .i64 i] (.int .u64 (place8 v i).toNat) := by
  have hv := v.toNat_lt
  have hp := place8_nat v hi
  have hw : IntKind.u64.wrap (v.toNat : Int) = (v.toNat : Int) := u64N (by omega)
  refine PC.walk tok mixed cfg0 Tryz.func36 rfl Tryz.call36 (by simp [fmN, fm0, belN, bel_Ns, bel_slN, belC, bel_Cs, bel_slC, bel_encLE]) (by first | rfl | simp [fmN, fm0, belN, bel_Ns, bel_slN, belC, bel_Cs, bel_slC, bel_encLE]) ?_; simp (config := { maxSteps := 2000000 }) -implicitDefEqProofs +contextual (disch := first | assumption | omega | decide +kernel) only [push_cast, ↓capI, br2_true, br2_false, frk_tt, frk_tf, frk_f, frkD_tt, frkD_tf, frkD_f, pk2_true, pk2_false, imp_true, seval, Nat.reduceLeDiff, Nat.reduceEqDiff, reduceCtorEq, ↓reduceIte, reduceCtorEq, fmN, fm0, take_N, toN1, slN_nil, encN, encC, slN, slC, cfg0, get_flat_part lenN, get_flat_drop lenN, len_flat lenN, encLE, Tryz.ntmps36]
  (try simp (config := { maxSteps := 2000000 }) -implicitDefEqProofs +contextual (disch := first | assumption | omega | decide +kernel) only [push_cast, ↓capI, br2_true, br2_false, frk_tt, frk_tf, frk_f, frkD_tt, frkD_tf, frkD_f, pk2_true, pk2_false, imp_true, seval, Nat.reduceLeDiff, Nat.reduceEqDiff, reduceCtorEq, ↓reduceIte, reduceCtorEq, fmN, fm0, take_N, toN1, slN_nil, encN, encC, slN, slC, cfg0, get_flat_part lenN, get_flat_drop lenN, len_flat lenN, encLE, hw])
  refine T.lp tok mixed cfg0 (fun (k : Nat) => dd 5 (sv (.int .u64 ((v.toNat * 256 ^ k : Nat) : Int)) (sv (.int .i64 (i + k)) (dd 10 (nl))))) (fun H0 (k : Nat) => H0) (fun (k : Nat) => k ≤ (2 - i).toNat) (fun (k : Nat) => 2 - k) (0) ?_ ?_ ?_
  · exact Nat.zero_le _
  · exact Gn.canon (J := []) (by first | rfl | (simp [List.append_nil]; done) | (simp [List.append_nil]; rfl)) (by simp [wk, slN, putT, kp, dd, sv, nl]) (by simp [List.length_append]) (by simp [fmN, fm0, belN, bel_Ns, bel_slN, belC, bel_Cs, bel_slC, bel_encLE, kp, dd, sv, nl]) (by simp [fmN, fm0, belN, bel_Ns, bel_slN, belC, bel_Cs, bel_slC, bel_encLE])
  intro k hk
  have h256 : 256 ^ k ≤ 256 ^ 2 := Nat.pow_le_pow_right (by decide) (by omega)
  have hle : v.toNat * 256 ^ k ≤ 255 * 256 ^ 2 := Nat.mul_le_mul (by omega) h256
  have hs : 256 ^ (k + 1) = 256 ^ k * 256 := Nat.pow_succ ..
  have hmul : (256 : Int) * ((v.toNat * 256 ^ k : Nat) : Int) = ((v.toNat * 256 ^ (k + 1) : Nat) : Int) := by
    rw [hs, ← Nat.mul_assoc]
    omega
  have hlt : v.toNat * 256 ^ (k + 1) < 2 ^ 64 := by rw [hs, ← Nat.mul_assoc]; omega
  have hw2 : IntKind.u64.wrap ((v.toNat * 256 ^ (k + 1) : Nat) : Int) = ((v.toNat * 256 ^ (k + 1) : Nat) : Int) := u64N hlt
  generalize hA : v.toNat * 256 ^ k = A at hmul
  generalize hB : v.toNat * 256 ^ (k + 1) = B at hmul hw2 hlt
  by_cases h : i + k < 2
  · simp (config := { maxSteps := 2000000 }) -implicitDefEqProofs +contextual (disch := first | assumption | omega | decide +kernel) only [push_cast, ↓capI, br2_true, br2_false, frk_tt, frk_tf, frk_f, frkD_tt, frkD_tf, frkD_f, pk2_true, pk2_false, imp_true, seval, Nat.reduceLeDiff, Nat.reduceEqDiff, reduceCtorEq, ↓reduceIte, reduceCtorEq, fmN, fm0, take_N, toN1, slN_nil, encN, encC, slN, slC, cfg0, get_flat_part lenN, get_flat_drop lenN, len_flat lenN, encLE, h]
    have hBi : (B : Int) = (v.toNat : Int) * 256 ^ (k + 1) := by
      rw [← hB, Int.natCast_mul, Int.natCast_pow]
      rfl
    have hk1 : i + (k : Int) + 1 = i + ((k : Int) + 1) := by omega
    have hAi : (256 : Int) * (A : Int) = (v.toNat : Int) * 256 ^ (k + 1) := hmul.trans hBi
    refine ⟨k + 1, by omega, by (try simp only); omega, ?_⟩; exact Gn.canon (by first | rfl | (simp [List.append_nil, hAi, hk1]; rfl)) (by simp [wk, slN, hAi, hk1]) (by simp [List.length_append]) (by simp [fmN, fm0, belN, bel_Ns, bel_slN, belC, bel_Cs, bel_slC, bel_encLE]) (by simp [fmN, fm0, belN, bel_Ns, bel_slN, belC, bel_Cs, bel_slC, bel_encLE])
  · have e : k = (2 - i).toNat := by omega
    have e2 : (place8 v i).toNat = A := by rw [hp, ← e]; exact hA
    simp (config := { maxSteps := 2000000 }) -implicitDefEqProofs +contextual (disch := first | assumption | omega | decide +kernel) only [push_cast, ↓capI, br2_true, br2_false, frk_tt, frk_tf, frk_f, frkD_tt, frkD_tf, frkD_f, pk2_true, pk2_false, imp_true, seval, Nat.reduceLeDiff, Nat.reduceEqDiff, reduceCtorEq, ↓reduceIte, reduceCtorEq, fmN, fm0, take_N, toN1, slN_nil, encN, encC, slN, slC, cfg0, get_flat_part lenN, get_flat_drop lenN, len_flat lenN, encLE, h]
    refine endK.ret ?_ (by first | rfl | simp [fmN, fm0, belN, bel_Ns, bel_slN, belC, bel_Cs, bel_slC, bel_encLE]); simp [evRes, getT, retV, Tryz.f36,  e2]
theorem compl_bad (A : List Cu) (h : ¬ (compl8 A 24).2 = 0) : compl8 A 24 = ([], (compl8 A 24).2) := by
  have e := subt8_bad (a := [⟨0#64, 0#64⟩]) (b := A) (k := 24) (by decide) (by decide) h
  have e2 : compl8 A 24 = ([], 12) := e
  rw [e2]
def spV (p : Pr) : List Cu × Int := ((spc p).1.getD [], (spc p).2)
theorem pc23l (l : List Nd) (hm : l.length ≤ 4000000) (x : Nd) (a : Nat) (r : List Nd) (hp : okP (.leaf x)) (hl : l.drop a = flat (.leaf x) ++ r) : PC Tryz.prog 23 [slN l, .int .i64 a] (encLE (spV (.leaf x))) := by
  obtain ⟨h0, hc⟩ := hp
  obtain ⟨hlt, hX, h2⟩ := drop_cons (x := x) (r := r) hl
  rcases h0 with h | h | h
  · have e : spV (.leaf x) = ([⟨0#64, 0#64⟩], 0) := by rw [spV, spc, if_pos h]; rfl
    rw [e]
    refine PC.walk tok mixed cfg0 Tryz.func23 rfl Tryz.call23 (by simp [fmN, fm0, belN, bel_Ns, bel_slN, belC, bel_Cs, bel_slC, bel_encLE]) (by first | rfl | simp [fmN, fm0, belN, bel_Ns, bel_slN, belC, bel_Cs, bel_slC, bel_encLE]) ?_; simp (config := { maxSteps := 2000000 }) -implicitDefEqProofs +contextual (disch := first | assumption | omega | decide +kernel) only [push_cast, ↓capI, br2_true, br2_false, frk_tt, frk_tf, frk_f, frkD_tt, frkD_tf, frkD_f, pk2_true, pk2_false, imp_true, seval, Nat.reduceLeDiff, Nat.reduceEqDiff, reduceCtorEq, ↓reduceIte, reduceCtorEq, fmN, fm0, take_N, toN1, slN_nil, encN, encC, slN, slC, cfg0, get_flat_part lenN, get_flat_drop lenN, len_flat lenN, encLE, Tryz.ntmps23]
    simp (config := { maxSteps := 2000000 }) -implicitDefEqProofs +contextual (disch := first | assumption | omega | decide +kernel) only [push_cast, ↓capI, br2_true, br2_false, frk_tt, frk_tf, frk_f, frkD_tt, frkD_tf, frkD_f, pk2_true, pk2_false, imp_true, seval, Nat.reduceLeDiff, Nat.reduceEqDiff, reduceCtorEq, ↓reduceIte, reduceCtorEq, fmN, fm0, take_N, toN1, slN_nil, encN, encC, slN, slC, cfg0, get_flat_part lenN, get_flat_drop lenN, len_flat lenN, encLE, hX, h]
    refine endK.ret ?_ (by first | rfl | simp [fmN, fm0, belN, bel_Ns, bel_slN, belC, bel_Cs, bel_slC, bel_encLE]); simp [evRes, getT, retV, Tryz.f23,  encLE, slC, encC]
  · have e : spV (.leaf x) = ([], 0) := by rw [spV, spc, h]; rfl
    rw [e]
    refine PC.laxr (v := .tup [.sl true [] 0, .int .i64 0]) ?_
    refine PC.walk tok mixed cfg0 Tryz.func23 rfl Tryz.call23 (by simp [fmN, fm0, belN, bel_Ns, bel_slN, belC, bel_Cs, bel_slC, bel_encLE]) (by first | rfl | simp [fmN, fm0, belN, bel_Ns, bel_slN, belC, bel_Cs, bel_slC, bel_encLE]) ?_; simp (config := { maxSteps := 2000000 }) -implicitDefEqProofs +contextual (disch := first | assumption | omega | decide +kernel) only [push_cast, ↓capI, br2_true, br2_false, frk_tt, frk_tf, frk_f, frkD_tt, frkD_tf, frkD_f, pk2_true, pk2_false, imp_true, seval, Nat.reduceLeDiff, Nat.reduceEqDiff, reduceCtorEq, ↓reduceIte, reduceCtorEq, fmN, fm0, take_N, toN1, slN_nil, encN, encC, slN, slC, cfg0, get_flat_part lenN, get_flat_drop lenN, len_flat lenN, encLE, Tryz.ntmps23]
    simp (config := { maxSteps := 2000000 }) -implicitDefEqProofs +contextual (disch := first | assumption | omega | decide +kernel) only [push_cast, ↓capI, br2_true, br2_false, frk_tt, frk_tf, frk_f, frkD_tt, frkD_tf, frkD_f, pk2_true, pk2_false, imp_true, seval, Nat.reduceLeDiff, Nat.reduceEqDiff, reduceCtorEq, ↓reduceIte, reduceCtorEq, fmN, fm0, take_N, toN1, slN_nil, encN, encC, slN, slC, cfg0, get_flat_part lenN, get_flat_drop lenN, len_flat lenN, encLE, hX, h]
    refine endK.ret ?_ (by first | rfl | simp [fmN, fm0, belN, bel_Ns, bel_slN, belC, bel_Cs, bel_slC, bel_encLE]); simp [evRes, getT, retV, Tryz.f23]
  · obtain ⟨hf, _⟩ := leaf_bad h hc
    have e : spV (.leaf x) = ([cubeN x], 0) := by rw [spV, spc, h]; rfl
    rw [e]
    refine PC.walk tok mixed cfg0 Tryz.func23 rfl Tryz.call23 (by simp [fmN, fm0, belN, bel_Ns, bel_slN, belC, bel_Cs, bel_slC, bel_encLE]) (by first | rfl | simp [fmN, fm0, belN, bel_Ns, bel_slN, belC, bel_Cs, bel_slC, bel_encLE]) ?_; simp (config := { maxSteps := 2000000 }) -implicitDefEqProofs +contextual (disch := first | assumption | omega | decide +kernel) only [push_cast, ↓capI, br2_true, br2_false, frk_tt, frk_tf, frk_f, frkD_tt, frkD_tf, frkD_f, pk2_true, pk2_false, imp_true, seval, Nat.reduceLeDiff, Nat.reduceEqDiff, reduceCtorEq, ↓reduceIte, reduceCtorEq, fmN, fm0, take_N, toN1, slN_nil, encN, encC, slN, slC, cfg0, get_flat_part lenN, get_flat_drop lenN, len_flat lenN, encLE, Tryz.ntmps23]
    simp (config := { maxSteps := 2000000 }) -implicitDefEqProofs +contextual (disch := first | assumption | omega | decide +kernel) only [push_cast, ↓capI, br2_true, br2_false, frk_tt, frk_tf, frk_f, frkD_tt, frkD_tf, frkD_f, pk2_true, pk2_false, imp_true, seval, Nat.reduceLeDiff, Nat.reduceEqDiff, reduceCtorEq, ↓reduceIte, reduceCtorEq, fmN, fm0, take_N, toN1, slN_nil, encN, encC, slN, slC, cfg0, get_flat_part lenN, get_flat_drop lenN, len_flat lenN, encLE, hX, h]
    refine callG.pc1 (pc36 x.v x.fd hf) ?_
    simp (config := { maxSteps := 2000000 }) -implicitDefEqProofs +contextual (disch := first | assumption | omega | decide +kernel) only [push_cast, ↓capI, br2_true, br2_false, frk_tt, frk_tf, frk_f, frkD_tt, frkD_tf, frkD_f, pk2_true, pk2_false, imp_true, seval, Nat.reduceLeDiff, Nat.reduceEqDiff, reduceCtorEq, ↓reduceIte, reduceCtorEq, fmN, fm0, take_N, toN1, slN_nil, encN, encC, slN, slC, cfg0, get_flat_part lenN, get_flat_drop lenN, len_flat lenN, encLE]
    refine callG.pc1 (pc36 x.m x.fd hf) ?_
    simp (config := { maxSteps := 2000000 }) -implicitDefEqProofs +contextual (disch := first | assumption | omega | decide +kernel) only [push_cast, ↓capI, br2_true, br2_false, frk_tt, frk_tf, frk_f, frkD_tt, frkD_tf, frkD_f, pk2_true, pk2_false, imp_true, seval, Nat.reduceLeDiff, Nat.reduceEqDiff, reduceCtorEq, ↓reduceIte, reduceCtorEq, fmN, fm0, take_N, toN1, slN_nil, encN, encC, slN, slC, cfg0, get_flat_part lenN, get_flat_drop lenN, len_flat lenN, encLE]
    refine endK.ret ?_ (by first | rfl | simp [fmN, fm0, belN, bel_Ns, bel_slN, belC, bel_Cs, bel_slC, bel_encLE]); simp [evRes, getT, retV, Tryz.f23,  encLE, slC, cubeN, encC]
theorem pc23 (l : List Nd) (hm : l.length ≤ 4000000) : ∀ (p : Pr) (a : Nat) (r : List Nd), okP p → l.drop a = flat p ++ r → PC Tryz.prog 23 [slN l, .int .i64 a] (encLE (spV p))
  | .leaf x, a, r, hp, hl => pc23l l hm x a r hp hl
  | .un x p, a, r, hp, hl => by
    obtain ⟨h4, hp⟩ := hp
    obtain ⟨hlt, hX, h2⟩ := drop_cons (x := x) (r := flat p ++ r) (by rw [hl, flat, List.cons_append])
    have i1 := pc23 l hm p (a + 1) r hp h2
    rw [show ((a + 1 : Nat) : Int) = a + 1 from rfl] at i1
    have hlen := spc_len p
    by_cases he : (spc p).2 = 0
    case neg =>
      have e : spV (.un x p) = ([], (spc p).2) := by rw [spV, spc, if_pos he]; rfl
      rw [e]
      refine PC.laxr (v := .tup [.sl true [] 0, .int .i64 (spc p).2]) ?_
      refine PC.walk tok mixed cfg0 Tryz.func23 rfl Tryz.call23 (by simp [fmN, fm0, belN, bel_Ns, bel_slN, belC, bel_Cs, bel_slC, bel_encLE]) (by first | rfl | simp [fmN, fm0, belN, bel_Ns, bel_slN, belC, bel_Cs, bel_slC, bel_encLE]) ?_; simp (config := { maxSteps := 2000000 }) -implicitDefEqProofs +contextual (disch := first | assumption | omega | decide +kernel) only [push_cast, ↓capI, br2_true, br2_false, frk_tt, frk_tf, frk_f, frkD_tt, frkD_tf, frkD_f, pk2_true, pk2_false, imp_true, seval, Nat.reduceLeDiff, Nat.reduceEqDiff, reduceCtorEq, ↓reduceIte, reduceCtorEq, fmN, fm0, take_N, toN1, slN_nil, encN, encC, slN, slC, cfg0, get_flat_part lenN, get_flat_drop lenN, len_flat lenN, encLE, Tryz.ntmps23]
      simp (config := { maxSteps := 2000000 }) -implicitDefEqProofs +contextual (disch := first | assumption | omega | decide +kernel) only [push_cast, ↓capI, br2_true, br2_false, frk_tt, frk_tf, frk_f, frkD_tt, frkD_tf, frkD_f, pk2_true, pk2_false, imp_true, seval, Nat.reduceLeDiff, Nat.reduceEqDiff, reduceCtorEq, ↓reduceIte, reduceCtorEq, fmN, fm0, take_N, toN1, slN_nil, encN, encC, slN, slC, cfg0, get_flat_part lenN, get_flat_drop lenN, len_flat lenN, encLE, hX, h4]
      refine callO.pc i1 ?_
      simp (config := { maxSteps := 2000000 }) -implicitDefEqProofs +contextual (disch := first | assumption | omega | decide +kernel) only [push_cast, ↓capI, br2_true, br2_false, frk_tt, frk_tf, frk_f, frkD_tt, frkD_tf, frkD_f, pk2_true, pk2_false, imp_true, seval, Nat.reduceLeDiff, Nat.reduceEqDiff, reduceCtorEq, ↓reduceIte, reduceCtorEq, fmN, fm0, take_N, toN1, slN_nil, encN, encC, slN, slC, cfg0, get_flat_part lenN, get_flat_drop lenN, len_flat lenN, encLE, he, spV]
      refine endK.ret ?_ (by first | rfl | simp [fmN, fm0, belN, bel_Ns, bel_slN, belC, bel_Cs, bel_slC, bel_encLE]); simp [evRes, getT, retV, Tryz.f23]
    have hg := pc37 ((spc p).1.getD []) 24 (by omega)
    have e : spV (.un x p) = compl8 ((spc p).1.getD []) 24 := by
      rw [spV, spc, if_neg (fun g => g he)]
      by_cases hc : (compl8 ((spc p).1.getD []) 24).2 = 0
      · rw [if_neg (fun g => g hc)]
        exact (Prod.ext rfl hc.symm)
      · rw [if_pos hc]
        exact (compl_bad _ hc).symm
    rw [e]
    simp only [spV, he] at i1
    refine PC.walk tok mixed cfg0 Tryz.func23 rfl Tryz.call23 (by simp [fmN, fm0, belN, bel_Ns, bel_slN, belC, bel_Cs, bel_slC, bel_encLE]) (by first | rfl | simp [fmN, fm0, belN, bel_Ns, bel_slN, belC, bel_Cs, bel_slC, bel_encLE]) ?_; simp (config := { maxSteps := 2000000 }) -implicitDefEqProofs +contextual (disch := first | assumption | omega | decide +kernel) only [push_cast, ↓capI, br2_true, br2_false, frk_tt, frk_tf, frk_f, frkD_tt, frkD_tf, frkD_f, pk2_true, pk2_false, imp_true, seval, Nat.reduceLeDiff, Nat.reduceEqDiff, reduceCtorEq, ↓reduceIte, reduceCtorEq, fmN, fm0, take_N, toN1, slN_nil, encN, encC, slN, slC, cfg0, get_flat_part lenN, get_flat_drop lenN, len_flat lenN, encLE, Tryz.ntmps23]
    simp (config := { maxSteps := 2000000 }) -implicitDefEqProofs +contextual (disch := first | assumption | omega | decide +kernel) only [push_cast, ↓capI, br2_true, br2_false, frk_tt, frk_tf, frk_f, frkD_tt, frkD_tf, frkD_f, pk2_true, pk2_false, imp_true, seval, Nat.reduceLeDiff, Nat.reduceEqDiff, reduceCtorEq, ↓reduceIte, reduceCtorEq, fmN, fm0, take_N, toN1, slN_nil, encN, encC, slN, slC, cfg0, get_flat_part lenN, get_flat_drop lenN, len_flat lenN, encLE, hX, h4]
    refine callO.pc i1 ?_
    simp (config := { maxSteps := 2000000 }) -implicitDefEqProofs +contextual (disch := first | assumption | omega | decide +kernel) only [push_cast, ↓capI, br2_true, br2_false, frk_tt, frk_tf, frk_f, frkD_tt, frkD_tf, frkD_f, pk2_true, pk2_false, imp_true, seval, Nat.reduceLeDiff, Nat.reduceEqDiff, reduceCtorEq, ↓reduceIte, reduceCtorEq, fmN, fm0, take_N, toN1, slN_nil, encN, encC, slN, slC, cfg0, get_flat_part lenN, get_flat_drop lenN, len_flat lenN, encLE, h4]
    refine callO.pc hg ?_
    simp (config := { maxSteps := 2000000 }) -implicitDefEqProofs +contextual (disch := first | assumption | omega | decide +kernel) only [push_cast, ↓capI, br2_true, br2_false, frk_tt, frk_tf, frk_f, frkD_tt, frkD_tf, frkD_f, pk2_true, pk2_false, imp_true, seval, Nat.reduceLeDiff, Nat.reduceEqDiff, reduceCtorEq, ↓reduceIte, reduceCtorEq, fmN, fm0, take_N, toN1, slN_nil, encN, encC, slN, slC, cfg0, get_flat_part lenN, get_flat_drop lenN, len_flat lenN, encLE]
    refine endK.ret ?_ (by first | rfl | simp [fmN, fm0, belN, bel_Ns, bel_slN, belC, bel_Cs, bel_slC, bel_encLE]); simp [evRes, getT, retV, Tryz.f23]
  | .bin x p q, a, r, hp, hl => by
    obtain ⟨h4, hp, hq⟩ := hp
    have h3 : ¬ x.op = 4 := by omega
    have h31 : ¬ x.op = 1 := by omega
    have h32 : ¬ x.op = 2 := by omega
    have h33 : ¬ x.op = 3 := by omega
    obtain ⟨hlt, hX, h2⟩ := drop_cons (x := x) (r := flat p ++ (flat q ++ r)) (by rw [hl, flat, List.cons_append, List.append_assoc])
    have i1 := pc23 l hm p (a + 1) _ hp h2
    have i2 := pc23 l hm q (a + 1 + (flat p).length) r hq (drop_app h2)
    have i3 := pc38 p l (a + 1) _ hp h2 hlt hm
    have hn := drop_len hlt h2
    have hnn : (flat p).length ≤ 4000000 := by omega
    rw [show ((a + 1 + (flat p).length : Nat) : Int) = (a : Int) + 1 + ((flat p).length : Nat) by omega] at i2
    rw [show ((a + 1 : Nat) : Int) = a + 1 from rfl] at i1 i3
    have hlp := spc_len p
    have hlq := spc_len q
    by_cases he : (spc p).2 = 0
    case neg =>
      have e : spV (.bin x p q) = ([], (spc p).2) := by rw [spV, spc, if_pos he]; rfl
      rw [e]
      refine PC.laxr (v := .tup [.sl true [] 0, .int .i64 (spc p).2]) ?_
      refine PC.walk tok mixed cfg0 Tryz.func23 rfl Tryz.call23 (by simp [fmN, fm0, belN, bel_Ns, bel_slN, belC, bel_Cs, bel_slC, bel_encLE]) (by first | rfl | simp [fmN, fm0, belN, bel_Ns, bel_slN, belC, bel_Cs, bel_slC, bel_encLE]) ?_; simp (config := { maxSteps := 2000000 }) -implicitDefEqProofs +contextual (disch := first | assumption | omega | decide +kernel) only [push_cast, ↓capI, br2_true, br2_false, frk_tt, frk_tf, frk_f, frkD_tt, frkD_tf, frkD_f, pk2_true, pk2_false, imp_true, seval, Nat.reduceLeDiff, Nat.reduceEqDiff, reduceCtorEq, ↓reduceIte, reduceCtorEq, fmN, fm0, take_N, toN1, slN_nil, encN, encC, slN, slC, cfg0, get_flat_part lenN, get_flat_drop lenN, len_flat lenN, encLE, Tryz.ntmps23]
      simp (config := { maxSteps := 2000000 }) -implicitDefEqProofs +contextual (disch := first | assumption | omega | decide +kernel) only [push_cast, ↓capI, br2_true, br2_false, frk_tt, frk_tf, frk_f, frkD_tt, frkD_tf, frkD_f, pk2_true, pk2_false, imp_true, seval, Nat.reduceLeDiff, Nat.reduceEqDiff, reduceCtorEq, ↓reduceIte, reduceCtorEq, fmN, fm0, take_N, toN1, slN_nil, encN, encC, slN, slC, cfg0, get_flat_part lenN, get_flat_drop lenN, len_flat lenN, encLE, hX, h31, h32, h33]
      refine callO.pc i1 ?_
      simp (config := { maxSteps := 2000000 }) -implicitDefEqProofs +contextual (disch := first | assumption | omega | decide +kernel) only [push_cast, ↓capI, br2_true, br2_false, frk_tt, frk_tf, frk_f, frkD_tt, frkD_tf, frkD_f, pk2_true, pk2_false, imp_true, seval, Nat.reduceLeDiff, Nat.reduceEqDiff, reduceCtorEq, ↓reduceIte, reduceCtorEq, fmN, fm0, take_N, toN1, slN_nil, encN, encC, slN, slC, cfg0, get_flat_part lenN, get_flat_drop lenN, len_flat lenN, encLE, he, spV]
      refine endK.ret ?_ (by first | rfl | simp [fmN, fm0, belN, bel_Ns, bel_slN, belC, bel_Cs, bel_slC, bel_encLE]); simp [evRes, getT, retV, Tryz.f23]
    by_cases he2 : (spc q).2 = 0
    case neg =>
      have e : spV (.bin x p q) = ([], (spc q).2) := by rw [spV, spc, if_neg (fun g => g he), if_pos he2]; rfl
      rw [e]
      simp only [spV, he] at i1
      refine PC.laxr (v := .tup [.sl true [] 0, .int .i64 (spc q).2]) ?_
      refine PC.walk tok mixed cfg0 Tryz.func23 rfl Tryz.call23 (by simp [fmN, fm0, belN, bel_Ns, bel_slN, belC, bel_Cs, bel_slC, bel_encLE]) (by first | rfl | simp [fmN, fm0, belN, bel_Ns, bel_slN, belC, bel_Cs, bel_slC, bel_encLE]) ?_; simp (config := { maxSteps := 2000000 }) -implicitDefEqProofs +contextual (disch := first | assumption | omega | decide +kernel) only [push_cast, ↓capI, br2_true, br2_false, frk_tt, frk_tf, frk_f, frkD_tt, frkD_tf, frkD_f, pk2_true, pk2_false, imp_true, seval, Nat.reduceLeDiff, Nat.reduceEqDiff, reduceCtorEq, ↓reduceIte, reduceCtorEq, fmN, fm0, take_N, toN1, slN_nil, encN, encC, slN, slC, cfg0, get_flat_part lenN, get_flat_drop lenN, len_flat lenN, encLE, Tryz.ntmps23]
      simp (config := { maxSteps := 2000000 }) -implicitDefEqProofs +contextual (disch := first | assumption | omega | decide +kernel) only [push_cast, ↓capI, br2_true, br2_false, frk_tt, frk_tf, frk_f, frkD_tt, frkD_tf, frkD_f, pk2_true, pk2_false, imp_true, seval, Nat.reduceLeDiff, Nat.reduceEqDiff, reduceCtorEq, ↓reduceIte, reduceCtorEq, fmN, fm0, take_N, toN1, slN_nil, encN, encC, slN, slC, cfg0, get_flat_part lenN, get_flat_drop lenN, len_flat lenN, encLE, hX, h31, h32, h33]
      refine callO.pc i1 ?_
      simp (config := { maxSteps := 2000000 }) -implicitDefEqProofs +contextual (disch := first | assumption | omega | decide +kernel) only [push_cast, ↓capI, br2_true, br2_false, frk_tt, frk_tf, frk_f, frkD_tt, frkD_tf, frkD_f, pk2_true, pk2_false, imp_true, seval, Nat.reduceLeDiff, Nat.reduceEqDiff, reduceCtorEq, ↓reduceIte, reduceCtorEq, fmN, fm0, take_N, toN1, slN_nil, encN, encC, slN, slC, cfg0, get_flat_part lenN, get_flat_drop lenN, len_flat lenN, encLE, h3]
      refine callO.pc i3 ?_
      simp (config := { maxSteps := 2000000 }) -implicitDefEqProofs +contextual (disch := first | assumption | omega | decide +kernel) only [push_cast, ↓capI, br2_true, br2_false, frk_tt, frk_tf, frk_f, frkD_tt, frkD_tf, frkD_f, pk2_true, pk2_false, imp_true, seval, Nat.reduceLeDiff, Nat.reduceEqDiff, reduceCtorEq, ↓reduceIte, reduceCtorEq, fmN, fm0, take_N, toN1, slN_nil, encN, encC, slN, slC, cfg0, get_flat_part lenN, get_flat_drop lenN, len_flat lenN, encLE]
      refine callO.pc i2 ?_
      simp (config := { maxSteps := 2000000 }) -implicitDefEqProofs +contextual (disch := first | assumption | omega | decide +kernel) only [push_cast, ↓capI, br2_true, br2_false, frk_tt, frk_tf, frk_f, frkD_tt, frkD_tf, frkD_f, pk2_true, pk2_false, imp_true, seval, Nat.reduceLeDiff, Nat.reduceEqDiff, reduceCtorEq, ↓reduceIte, reduceCtorEq, fmN, fm0, take_N, toN1, slN_nil, encN, encC, slN, slC, cfg0, get_flat_part lenN, get_flat_drop lenN, len_flat lenN, encLE, he2, spV]
      refine endK.ret ?_ (by first | rfl | simp [fmN, fm0, belN, bel_Ns, bel_slN, belC, bel_Cs, bel_slC, bel_encLE]); simp [evRes, getT, retV, Tryz.f23]
    simp only [spV, he] at i1
    simp only [spV, he2] at i2
    rcases h4 with h | h
    · have hg := pc39 ((spc p).1.getD []) ((spc q).1.getD []) (by omega) (by omega)
      have e : spV (.bin x p q) = inter8 ((spc p).1.getD []) ((spc q).1.getD []) := by
        rw [spV, spc, if_neg (fun g => g he), if_neg (fun g => g he2), if_pos h]
        by_cases hc : (inter8 ((spc p).1.getD []) ((spc q).1.getD [])).2 = 0
        · rw [if_neg (fun g => g hc)]
          exact (Prod.ext rfl hc.symm)
        · rw [if_pos hc]
          have := inter8_bad hc
          rw [this]
          rfl
      rw [e]
      refine PC.walk tok mixed cfg0 Tryz.func23 rfl Tryz.call23 (by simp [fmN, fm0, belN, bel_Ns, bel_slN, belC, bel_Cs, bel_slC, bel_encLE]) (by first | rfl | simp [fmN, fm0, belN, bel_Ns, bel_slN, belC, bel_Cs, bel_slC, bel_encLE]) ?_; simp (config := { maxSteps := 2000000 }) -implicitDefEqProofs +contextual (disch := first | assumption | omega | decide +kernel) only [push_cast, ↓capI, br2_true, br2_false, frk_tt, frk_tf, frk_f, frkD_tt, frkD_tf, frkD_f, pk2_true, pk2_false, imp_true, seval, Nat.reduceLeDiff, Nat.reduceEqDiff, reduceCtorEq, ↓reduceIte, reduceCtorEq, fmN, fm0, take_N, toN1, slN_nil, encN, encC, slN, slC, cfg0, get_flat_part lenN, get_flat_drop lenN, len_flat lenN, encLE, Tryz.ntmps23]
      simp (config := { maxSteps := 2000000 }) -implicitDefEqProofs +contextual (disch := first | assumption | omega | decide +kernel) only [push_cast, ↓capI, br2_true, br2_false, frk_tt, frk_tf, frk_f, frkD_tt, frkD_tf, frkD_f, pk2_true, pk2_false, imp_true, seval, Nat.reduceLeDiff, Nat.reduceEqDiff, reduceCtorEq, ↓reduceIte, reduceCtorEq, fmN, fm0, take_N, toN1, slN_nil, encN, encC, slN, slC, cfg0, get_flat_part lenN, get_flat_drop lenN, len_flat lenN, encLE, hX, h]
      refine callO.pc i1 ?_
      simp (config := { maxSteps := 2000000 }) -implicitDefEqProofs +contextual (disch := first | assumption | omega | decide +kernel) only [push_cast, ↓capI, br2_true, br2_false, frk_tt, frk_tf, frk_f, frkD_tt, frkD_tf, frkD_f, pk2_true, pk2_false, imp_true, seval, Nat.reduceLeDiff, Nat.reduceEqDiff, reduceCtorEq, ↓reduceIte, reduceCtorEq, fmN, fm0, take_N, toN1, slN_nil, encN, encC, slN, slC, cfg0, get_flat_part lenN, get_flat_drop lenN, len_flat lenN, encLE, h]
      refine callO.pc i3 ?_
      simp (config := { maxSteps := 2000000 }) -implicitDefEqProofs +contextual (disch := first | assumption | omega | decide +kernel) only [push_cast, ↓capI, br2_true, br2_false, frk_tt, frk_tf, frk_f, frkD_tt, frkD_tf, frkD_f, pk2_true, pk2_false, imp_true, seval, Nat.reduceLeDiff, Nat.reduceEqDiff, reduceCtorEq, ↓reduceIte, reduceCtorEq, fmN, fm0, take_N, toN1, slN_nil, encN, encC, slN, slC, cfg0, get_flat_part lenN, get_flat_drop lenN, len_flat lenN, encLE]
      refine callO.pc i2 ?_
      simp (config := { maxSteps := 2000000 }) -implicitDefEqProofs +contextual (disch := first | assumption | omega | decide +kernel) only [push_cast, ↓capI, br2_true, br2_false, frk_tt, frk_tf, frk_f, frkD_tt, frkD_tf, frkD_f, pk2_true, pk2_false, imp_true, seval, Nat.reduceLeDiff, Nat.reduceEqDiff, reduceCtorEq, ↓reduceIte, reduceCtorEq, fmN, fm0, take_N, toN1, slN_nil, encN, encC, slN, slC, cfg0, get_flat_part lenN, get_flat_drop lenN, len_flat lenN, encLE, h]
      refine callO.pc hg ?_
      simp (config := { maxSteps := 2000000 }) -implicitDefEqProofs +contextual (disch := first | assumption | omega | decide +kernel) only [push_cast, ↓capI, br2_true, br2_false, frk_tt, frk_tf, frk_f, frkD_tt, frkD_tf, frkD_f, pk2_true, pk2_false, imp_true, seval, Nat.reduceLeDiff, Nat.reduceEqDiff, reduceCtorEq, ↓reduceIte, reduceCtorEq, fmN, fm0, take_N, toN1, slN_nil, encN, encC, slN, slC, cfg0, get_flat_part lenN, get_flat_drop lenN, len_flat lenN, encLE]
      refine endK.ret ?_ (by first | rfl | simp [fmN, fm0, belN, bel_Ns, bel_slN, belC, bel_Cs, bel_slC, bel_encLE]); simp [evRes, getT, retV, Tryz.f23]
    · have h5 : ¬ x.op = 5 := by omega
      have hg := pc40 ((spc p).1.getD []) ((spc q).1.getD []) (by omega) (by omega)
      have e : spV (.bin x p q) = fin8 ((spc p).1.getD [] ++ (spc q).1.getD []) := by
        rw [spV, spc, if_neg (fun g => g he), if_neg (fun g => g he2), if_neg h5]
        by_cases hc : (fin8 ((spc p).1.getD [] ++ (spc q).1.getD [])).2 = 0
        · rw [if_neg (fun g => g hc)]
          exact (Prod.ext rfl hc.symm)
        · rw [if_pos hc, fin8]
          rw [fin8] at hc
          split at hc
          · rename_i h9
            rw [if_pos h9]
            rfl
          · exact absurd rfl hc
      rw [e]
      refine PC.walk tok mixed cfg0 Tryz.func23 rfl Tryz.call23 (by simp [fmN, fm0, belN, bel_Ns, bel_slN, belC, bel_Cs, bel_slC, bel_encLE]) (by first | rfl | simp [fmN, fm0, belN, bel_Ns, bel_slN, belC, bel_Cs, bel_slC, bel_encLE]) ?_; simp (config := { maxSteps := 2000000 }) -implicitDefEqProofs +contextual (disch := first | assumption | omega | decide +kernel) only [push_cast, ↓capI, br2_true, br2_false, frk_tt, frk_tf, frk_f, frkD_tt, frkD_tf, frkD_f, pk2_true, pk2_false, imp_true, seval, Nat.reduceLeDiff, Nat.reduceEqDiff, reduceCtorEq, ↓reduceIte, reduceCtorEq, fmN, fm0, take_N, toN1, slN_nil, encN, encC, slN, slC, cfg0, get_flat_part lenN, get_flat_drop lenN, len_flat lenN, encLE, Tryz.ntmps23]
      simp (config := { maxSteps := 2000000 }) -implicitDefEqProofs +contextual (disch := first | assumption | omega | decide +kernel) only [push_cast, ↓capI, br2_true, br2_false, frk_tt, frk_tf, frk_f, frkD_tt, frkD_tf, frkD_f, pk2_true, pk2_false, imp_true, seval, Nat.reduceLeDiff, Nat.reduceEqDiff, reduceCtorEq, ↓reduceIte, reduceCtorEq, fmN, fm0, take_N, toN1, slN_nil, encN, encC, slN, slC, cfg0, get_flat_part lenN, get_flat_drop lenN, len_flat lenN, encLE, hX, h]
      refine callO.pc i1 ?_
      simp (config := { maxSteps := 2000000 }) -implicitDefEqProofs +contextual (disch := first | assumption | omega | decide +kernel) only [push_cast, ↓capI, br2_true, br2_false, frk_tt, frk_tf, frk_f, frkD_tt, frkD_tf, frkD_f, pk2_true, pk2_false, imp_true, seval, Nat.reduceLeDiff, Nat.reduceEqDiff, reduceCtorEq, ↓reduceIte, reduceCtorEq, fmN, fm0, take_N, toN1, slN_nil, encN, encC, slN, slC, cfg0, get_flat_part lenN, get_flat_drop lenN, len_flat lenN, encLE, h]
      refine callO.pc i3 ?_
      simp (config := { maxSteps := 2000000 }) -implicitDefEqProofs +contextual (disch := first | assumption | omega | decide +kernel) only [push_cast, ↓capI, br2_true, br2_false, frk_tt, frk_tf, frk_f, frkD_tt, frkD_tf, frkD_f, pk2_true, pk2_false, imp_true, seval, Nat.reduceLeDiff, Nat.reduceEqDiff, reduceCtorEq, ↓reduceIte, reduceCtorEq, fmN, fm0, take_N, toN1, slN_nil, encN, encC, slN, slC, cfg0, get_flat_part lenN, get_flat_drop lenN, len_flat lenN, encLE]
      refine callO.pc i2 ?_
      simp (config := { maxSteps := 2000000 }) -implicitDefEqProofs +contextual (disch := first | assumption | omega | decide +kernel) only [push_cast, ↓capI, br2_true, br2_false, frk_tt, frk_tf, frk_f, frkD_tt, frkD_tf, frkD_f, pk2_true, pk2_false, imp_true, seval, Nat.reduceLeDiff, Nat.reduceEqDiff, reduceCtorEq, ↓reduceIte, reduceCtorEq, fmN, fm0, take_N, toN1, slN_nil, encN, encC, slN, slC, cfg0, get_flat_part lenN, get_flat_drop lenN, len_flat lenN, encLE, h]
      refine callO.pc hg ?_
      simp (config := { maxSteps := 2000000 }) -implicitDefEqProofs +contextual (disch := first | assumption | omega | decide +kernel) only [push_cast, ↓capI, br2_true, br2_false, frk_tt, frk_tf, frk_f, frkD_tt, frkD_tf, frkD_f, pk2_true, pk2_false, imp_true, seval, Nat.reduceLeDiff, Nat.reduceEqDiff, reduceCtorEq, ↓reduceIte, reduceCtorEq, fmN, fm0, take_N, toN1, slN_nil, encN, encC, slN, slC, cfg0, get_flat_part lenN, get_flat_drop lenN, len_flat lenN, encLE]
      refine endK.ret ?_ (by first | rfl | simp [fmN, fm0, belN, bel_Ns, bel_slN, belC, bel_Cs, bel_slC, bel_encLE]); simp [evRes, getT, retV, Tryz.f23]
/-- what Space answers, as a list -/
def laxSp (R : Option (List Cu) × Int) : List Cu × Int := (R.1.getD [], R.2)
theorem pc8 (l : List Nd) (hl : l.length ≤ 4000000) (R : Option (List Cu) × Int) (h : spaceL l R) : PC Tryz.prog 8 [slN l] (encLE (laxSp R)) := by
  rcases h with ⟨hc, rfl⟩ | ⟨hc, p, hp, e, rfl⟩
  · refine PC.laxr (v := .tup [.sl true [] 0, .int .i64 (checkP l)]) ?_
    refine PC.walk tok mixed cfg0 Tryz.func8 rfl Tryz.call8 (by simp [fmN, fm0, belN, bel_Ns, bel_slN, belC, bel_Cs, bel_slC, bel_encLE]) (by first | rfl | simp [fmN, fm0, belN, bel_Ns, bel_slN, belC, bel_Cs, bel_slC, bel_encLE]) ?_; simp (config := { maxSteps := 2000000 }) -implicitDefEqProofs +contextual (disch := first | assumption | omega | decide +kernel) only [push_cast, ↓capI, br2_true, br2_false, frk_tt, frk_tf, frk_f, frkD_tt, frkD_tf, frkD_f, pk2_true, pk2_false, imp_true, seval, Nat.reduceLeDiff, Nat.reduceEqDiff, reduceCtorEq, ↓reduceIte, reduceCtorEq, fmN, fm0, take_N, toN1, slN_nil, encN, encC, slN, slC, cfg0, get_flat_part lenN, get_flat_drop lenN, len_flat lenN, encLE, Tryz.ntmps8]
    refine callO.pc (pc22 l hl) ?_
    simp (config := { maxSteps := 2000000 }) -implicitDefEqProofs +contextual (disch := first | assumption | omega | decide +kernel) only [push_cast, ↓capI, br2_true, br2_false, frk_tt, frk_tf, frk_f, frkD_tt, frkD_tf, frkD_f, pk2_true, pk2_false, imp_true, seval, Nat.reduceLeDiff, Nat.reduceEqDiff, reduceCtorEq, ↓reduceIte, reduceCtorEq, fmN, fm0, take_N, toN1, slN_nil, encN, encC, slN, slC, cfg0, get_flat_part lenN, get_flat_drop lenN, len_flat lenN, encLE, hc]
    refine endK.ret ?_ (by first | rfl | simp [fmN, fm0, belN, bel_Ns, bel_slN, belC, bel_Cs, bel_slC, bel_encLE]); simp [evRes, getT, retV, Tryz.f8]
  · have i0 := pc22 l hl
    rw [hc] at i0
    have i1 := pc23 l hl p 0 [] hp (by rw [List.append_nil, List.drop_zero, e])
    by_cases h0 : (spc p).2 = 0
    · rw [if_pos h0]
      simp only [spV, h0] at i1
      refine PC.walk tok mixed cfg0 Tryz.func8 rfl Tryz.call8 (by simp [fmN, fm0, belN, bel_Ns, bel_slN, belC, bel_Cs, bel_slC, bel_encLE]) (by first | rfl | simp [fmN, fm0, belN, bel_Ns, bel_slN, belC, bel_Cs, bel_slC, bel_encLE]) ?_; simp (config := { maxSteps := 2000000 }) -implicitDefEqProofs +contextual (disch := first | assumption | omega | decide +kernel) only [push_cast, ↓capI, br2_true, br2_false, frk_tt, frk_tf, frk_f, frkD_tt, frkD_tf, frkD_f, pk2_true, pk2_false, imp_true, seval, Nat.reduceLeDiff, Nat.reduceEqDiff, reduceCtorEq, ↓reduceIte, reduceCtorEq, fmN, fm0, take_N, toN1, slN_nil, encN, encC, slN, slC, cfg0, get_flat_part lenN, get_flat_drop lenN, len_flat lenN, encLE, Tryz.ntmps8]
      refine callO.pc i0 ?_
      simp (config := { maxSteps := 2000000 }) -implicitDefEqProofs +contextual (disch := first | assumption | omega | decide +kernel) only [push_cast, ↓capI, br2_true, br2_false, frk_tt, frk_tf, frk_f, frkD_tt, frkD_tf, frkD_f, pk2_true, pk2_false, imp_true, seval, Nat.reduceLeDiff, Nat.reduceEqDiff, reduceCtorEq, ↓reduceIte, reduceCtorEq, fmN, fm0, take_N, toN1, slN_nil, encN, encC, slN, slC, cfg0, get_flat_part lenN, get_flat_drop lenN, len_flat lenN, encLE]
      refine callO.pc i1 ?_
      simp (config := { maxSteps := 2000000 }) -implicitDefEqProofs +contextual (disch := first | assumption | omega | decide +kernel) only [push_cast, ↓capI, br2_true, br2_false, frk_tt, frk_tf, frk_f, frkD_tt, frkD_tf, frkD_f, pk2_true, pk2_false, imp_true, seval, Nat.reduceLeDiff, Nat.reduceEqDiff, reduceCtorEq, ↓reduceIte, reduceCtorEq, fmN, fm0, take_N, toN1, slN_nil, encN, encC, slN, slC, cfg0, get_flat_part lenN, get_flat_drop lenN, len_flat lenN, encLE]
      refine endK.ret ?_ (by first | rfl | simp [fmN, fm0, belN, bel_Ns, bel_slN, belC, bel_Cs, bel_slC, bel_encLE]); simp [evRes, getT, retV, Tryz.f8,  laxSp]
    · rw [if_neg h0]
      refine PC.laxr (v := .tup [.sl true [] 0, .int .i64 (spc p).2]) ?_
      refine PC.walk tok mixed cfg0 Tryz.func8 rfl Tryz.call8 (by simp [fmN, fm0, belN, bel_Ns, bel_slN, belC, bel_Cs, bel_slC, bel_encLE]) (by first | rfl | simp [fmN, fm0, belN, bel_Ns, bel_slN, belC, bel_Cs, bel_slC, bel_encLE]) ?_; simp (config := { maxSteps := 2000000 }) -implicitDefEqProofs +contextual (disch := first | assumption | omega | decide +kernel) only [push_cast, ↓capI, br2_true, br2_false, frk_tt, frk_tf, frk_f, frkD_tt, frkD_tf, frkD_f, pk2_true, pk2_false, imp_true, seval, Nat.reduceLeDiff, Nat.reduceEqDiff, reduceCtorEq, ↓reduceIte, reduceCtorEq, fmN, fm0, take_N, toN1, slN_nil, encN, encC, slN, slC, cfg0, get_flat_part lenN, get_flat_drop lenN, len_flat lenN, encLE, Tryz.ntmps8]
      refine callO.pc i0 ?_
      simp (config := { maxSteps := 2000000 }) -implicitDefEqProofs +contextual (disch := first | assumption | omega | decide +kernel) only [push_cast, ↓capI, br2_true, br2_false, frk_tt, frk_tf, frk_f, frkD_tt, frkD_tf, frkD_f, pk2_true, pk2_false, imp_true, seval, Nat.reduceLeDiff, Nat.reduceEqDiff, reduceCtorEq, ↓reduceIte, reduceCtorEq, fmN, fm0, take_N, toN1, slN_nil, encN, encC, slN, slC, cfg0, get_flat_part lenN, get_flat_drop lenN, len_flat lenN, encLE]
      refine callO.pc i1 ?_
      simp (config := { maxSteps := 2000000 }) -implicitDefEqProofs +contextual (disch := first | assumption | omega | decide +kernel) only [push_cast, ↓capI, br2_true, br2_false, frk_tt, frk_tf, frk_f, frkD_tt, frkD_tf, frkD_f, pk2_true, pk2_false, imp_true, seval, Nat.reduceLeDiff, Nat.reduceEqDiff, reduceCtorEq, ↓reduceIte, reduceCtorEq, fmN, fm0, take_N, toN1, slN_nil, encN, encC, slN, slC, cfg0, get_flat_part lenN, get_flat_drop lenN, len_flat lenN, encLE, h0, spV]
      refine endK.ret ?_ (by first | rfl | simp [fmN, fm0, belN, bel_Ns, bel_slN, belC, bel_Cs, bel_slC, bel_encLE]); simp [evRes, getT, retV, Tryz.f8]
end Go.Proofs.YtllfdnbnkncnhaaGreatDoor

/- Chapter 44: the law PredicateSpaces as a contract. -/
set_option maxRecDepth 100000
set_option maxHeartbeats 4000000
set_option linter.all false
namespace Go.Proofs.YtllfdnbnkncnhaaGreatDoor
open Go.Vm Go.ChangeShapes Go.WideShapes Go.ChangeAt Go.RowKit

theorem pc5w (l : List Nd) (hl : l.length ≤ 9223372036854775807) : PC Tryz.prog 5 [slN l] (.bool (heavy l)) := by
  refine PC.walk tok mixed cfg0 Tryz.func5 rfl Tryz.call5 (by simp [bel_LN, belN, bel_Ns, bel_slN, bel_Sp, bel_slZ, bel_slC]) (by first | rfl | simp [bel_LN, belN, bel_Ns, bel_slN, bel_Sp, bel_slZ, bel_slC]) ?_; simp (config := { maxSteps := 2000000 }) -implicitDefEqProofs +contextual (disch := first | assumption | omega | decide +kernel) only [push_cast, ↓capI, br2_true, br2_false, frk_tt, frk_tf, frk_f, frkD_tt, frkD_tf, frkD_f, pk2_true, pk2_false, imp_true, seval, Nat.reduceLeDiff, Nat.reduceEqDiff, reduceCtorEq, ↓reduceIte, reduceCtorEq, fmN, fm0, take_N, toN1, slN_nil, get_flat_part lenN, get_flat_drop lenN, len_flat lenN, cfg0, encN, slN, st_slZ, os_slZ, Tryz.ntmps5]
  refine T.lp tok mixed cfg0 (fun (i : Nat) => kp 1 (dd 2 (sv (.int .i64 (cntN l 3 i)) (sv (.int .i64 (cntN l 4 i)) (sv (.int .i64 i) (dd 30 (nl))))))) (fun H0 (i : Nat) => []) (fun (i : Nat) => i ≤ l.length) (fun (i : Nat) => l.length - i) (0) ?_ ?_ ?_
  · exact Nat.zero_le _
  · exact Gn.canon (J := []) (by first | rfl | (simp [List.append_nil]; done) | (simp [List.append_nil]; rfl)) (by simp [wk, slN, cntN0, putT, kp, dd, sv, nl]) (by simp [List.length_append]) (by simp [bel_LN, belN, bel_Ns, bel_slN, bel_Sp, bel_slZ, bel_slC, kp, dd, sv, nl]) (by simp [bel_LN, belN, bel_Ns, bel_slN, bel_Sp, bel_slZ, bel_slC])
  rintro i hi
  have c1 := cntN_le l 3 i
  have c2 := cntN_le l 4 i
  by_cases hlt : i < l.length
  · have s1 := cntN_succ l 3 i hlt
    have s2 := cntN_succ l 4 i hlt
    by_cases h3 : l[i].op = 3
    · rw [if_pos h3] at s1
      rw [if_neg (by omega)] at s2
      simp (config := { maxSteps := 2000000 }) -implicitDefEqProofs +contextual (disch := first | assumption | omega | decide +kernel) only [push_cast, ↓capI, br2_true, br2_false, frk_tt, frk_tf, frk_f, frkD_tt, frkD_tf, frkD_f, pk2_true, pk2_false, imp_true, seval, Nat.reduceLeDiff, Nat.reduceEqDiff, reduceCtorEq, ↓reduceIte, reduceCtorEq, fmN, fm0, take_N, toN1, slN_nil, get_flat_part lenN, get_flat_drop lenN, len_flat lenN, cfg0, encN, slN, st_slZ, os_slZ, h3]
      refine ⟨i + 1, by omega, by (try simp only); omega, ?_⟩; exact Gn.canon (by first | rfl | (simp [List.append_nil, s1, s2]; rfl)) (by simp [wk, slN, cntN0, s1, s2]) (by simp [List.length_append]) (by simp [bel_LN, belN, bel_Ns, bel_slN, bel_Sp, bel_slZ, bel_slC]) (by simp [bel_LN, belN, bel_Ns, bel_slN, bel_Sp, bel_slZ, bel_slC])
    rw [if_neg h3] at s1
    by_cases h4 : l[i].op = 4
    · rw [if_pos h4] at s2
      simp (config := { maxSteps := 2000000 }) -implicitDefEqProofs +contextual (disch := first | assumption | omega | decide +kernel) only [push_cast, ↓capI, br2_true, br2_false, frk_tt, frk_tf, frk_f, frkD_tt, frkD_tf, frkD_f, pk2_true, pk2_false, imp_true, seval, Nat.reduceLeDiff, Nat.reduceEqDiff, reduceCtorEq, ↓reduceIte, reduceCtorEq, fmN, fm0, take_N, toN1, slN_nil, get_flat_part lenN, get_flat_drop lenN, len_flat lenN, cfg0, encN, slN, st_slZ, os_slZ, h4]
      refine ⟨i + 1, by omega, by (try simp only); omega, ?_⟩; exact Gn.canon (by first | rfl | (simp [List.append_nil, s1, s2]; rfl)) (by simp [wk, slN, cntN0, s1, s2]) (by simp [List.length_append]) (by simp [bel_LN, belN, bel_Ns, bel_slN, bel_Sp, bel_slZ, bel_slC]) (by simp [bel_LN, belN, bel_Ns, bel_slN, bel_Sp, bel_slZ, bel_slC])
    · rw [if_neg h4] at s2
      simp (config := { maxSteps := 2000000 }) -implicitDefEqProofs +contextual (disch := first | assumption | omega | decide +kernel) only [push_cast, ↓capI, br2_true, br2_false, frk_tt, frk_tf, frk_f, frkD_tt, frkD_tf, frkD_f, pk2_true, pk2_false, imp_true, seval, Nat.reduceLeDiff, Nat.reduceEqDiff, reduceCtorEq, ↓reduceIte, reduceCtorEq, fmN, fm0, take_N, toN1, slN_nil, get_flat_part lenN, get_flat_drop lenN, len_flat lenN, cfg0, encN, slN, st_slZ, os_slZ, h3, h4]
      refine ⟨i + 1, by omega, by (try simp only); omega, ?_⟩; exact Gn.canon (by first | rfl | (simp [List.append_nil, s1, s2]; rfl)) (by simp [wk, slN, cntN0, s1, s2]) (by simp [List.length_append]) (by simp [bel_LN, belN, bel_Ns, bel_slN, bel_Sp, bel_slZ, bel_slC]) (by simp [bel_LN, belN, bel_Ns, bel_slN, bel_Sp, bel_slZ, bel_slC])
  · have hi' : i = l.length := by omega
    by_cases h60 : 60 < l.length
    · simp (config := { maxSteps := 2000000 }) -implicitDefEqProofs +contextual (disch := first | assumption | omega | decide +kernel) only [push_cast, ↓capI, br2_true, br2_false, frk_tt, frk_tf, frk_f, frkD_tt, frkD_tf, frkD_f, pk2_true, pk2_false, imp_true, seval, Nat.reduceLeDiff, Nat.reduceEqDiff, reduceCtorEq, ↓reduceIte, reduceCtorEq, fmN, fm0, take_N, toN1, slN_nil, get_flat_part lenN, get_flat_drop lenN, len_flat lenN, cfg0, encN, slN, st_slZ, os_slZ, h60]
      refine endK.ret ?_ (by first | rfl | simp [bel_LN, belN, bel_Ns, bel_slN, bel_Sp, bel_slZ, bel_slC]); simp [evRes, getT, retV, Tryz.f5,  heavy, h60]
    by_cases h0 : 0 < cntN l 4 i
    · simp (config := { maxSteps := 2000000 }) -implicitDefEqProofs +contextual (disch := first | assumption | omega | decide +kernel) only [push_cast, ↓capI, br2_true, br2_false, frk_tt, frk_tf, frk_f, frkD_tt, frkD_tf, frkD_f, pk2_true, pk2_false, imp_true, seval, Nat.reduceLeDiff, Nat.reduceEqDiff, reduceCtorEq, ↓reduceIte, reduceCtorEq, fmN, fm0, take_N, toN1, slN_nil, get_flat_part lenN, get_flat_drop lenN, len_flat lenN, cfg0, encN, slN, st_slZ, os_slZ, h60, h0]
      subst hi'
      refine endK.ret ?_ (by first | rfl | simp [bel_LN, belN, bel_Ns, bel_slN, bel_Sp, bel_slZ, bel_slC]); simp [evRes, getT, retV, Tryz.f5,  heavy, h60, h0]
      omega
    · simp (config := { maxSteps := 2000000 }) -implicitDefEqProofs +contextual (disch := first | assumption | omega | decide +kernel) only [push_cast, ↓capI, br2_true, br2_false, frk_tt, frk_tf, frk_f, frkD_tt, frkD_tf, frkD_f, pk2_true, pk2_false, imp_true, seval, Nat.reduceLeDiff, Nat.reduceEqDiff, reduceCtorEq, ↓reduceIte, reduceCtorEq, fmN, fm0, take_N, toN1, slN_nil, get_flat_part lenN, get_flat_drop lenN, len_flat lenN, cfg0, encN, slN, st_slZ, os_slZ, h60, h0]
      subst hi'
      refine endK.ret ?_ (by first | rfl | simp [bel_LN, belN, bel_Ns, bel_slN, bel_Sp, bel_slZ, bel_slC]); simp [evRes, getT, retV, Tryz.f5,  heavy, h60, h0]
theorem heavy_len {l : List Nd} (h : heavy l = false) : l.length ≤ 60 := by
  unfold heavy at h
  simp only [Bool.or_eq_false_iff, decide_eq_false_iff_not] at h
  omega
theorem typ_slNb {m : Nat} {c : List V} (h : Typ tt (m + 3) 22 c) : ∃ l : List Nd, lax (mkV (tt 22) c) = slN l ∧ l.length ≤ 9223372036854775807 := by
  obtain ⟨l, hl, hn, _⟩ := typ_slice (by rw [tt_22]) typ_N h
  obtain ⟨x, rfl, hx⟩ := laxs_one hl
  refine ⟨l, ?_, Nat.le_trans hn (by decide)⟩
  rw [tt_22]
  exact hx
theorem pc9z (o : Option (List Cu)) (a : List Cu) (h : (o.getD []).length ≤ 1000000) (h2 : a.length ≤ 1000000) : PC Tryz.prog 9 [slZ o, slC a] (.bool (decide (o.getD [] = a))) := by
  refine PC.lax ?_
  rw [laxs, laxs, laxs, lax_Z, lax_C]
  exact pc9 _ _ (by omega)
theorem spaceL_len {l : List Nd} {R : Option (List Cu) × Int} (h : spaceL l R) : (R.1.getD []).length ≤ 1024 := by
  rcases h with ⟨_, rfl⟩ | ⟨_, p, _, _, rfl⟩
  · exact Nat.zero_le _
  · split
    · exact spc_len p
    · exact Nat.zero_le _
theorem spaceL_ex (l : List Nd) : ∃ R, spaceL l R := by
  by_cases h : checkP l = 0
  · obtain ⟨_, p, hp, e⟩ := checkP_tree h
    exact ⟨_, .inr ⟨h, p, hp, e, rfl⟩⟩
  · exact ⟨_, .inl ⟨h, rfl⟩⟩
theorem pc3 (l : List Nd) (hl0 : l.length ≤ 9223372036854775807) : PC Tryz.prog 3 [slN l] (.bool true) := by
  have h5 := pc5w l hl0
  cases hh : heavy l
  case true =>
    rw [hh] at h5
    refine PC.walk tok mixed cfg0 Tryz.func3 rfl Tryz.call3 (by simp [bel_LN, belN, bel_Ns, bel_slN, bel_Sp, bel_slZ, bel_slC]) (by first | rfl | simp [bel_LN, belN, bel_Ns, bel_slN, bel_Sp, bel_slZ, bel_slC]) ?_; simp (config := { maxSteps := 2000000 }) -implicitDefEqProofs +contextual (disch := first | assumption | omega | decide +kernel) only [push_cast, ↓capI, br2_true, br2_false, frk_tt, frk_tf, frk_f, frkD_tt, frkD_tf, frkD_f, pk2_true, pk2_false, imp_true, seval, Nat.reduceLeDiff, Nat.reduceEqDiff, reduceCtorEq, ↓reduceIte, reduceCtorEq, fmN, fm0, take_N, toN1, slN_nil, get_flat_part lenN, get_flat_drop lenN, len_flat lenN, cfg0, encN, slN, st_slZ, os_slZ, Tryz.ntmps3]
    refine callO.pc h5 ?_
    simp (config := { maxSteps := 2000000 }) -implicitDefEqProofs +contextual (disch := first | assumption | omega | decide +kernel) only [push_cast, ↓capI, br2_true, br2_false, frk_tt, frk_tf, frk_f, frkD_tt, frkD_tf, frkD_f, pk2_true, pk2_false, imp_true, seval, Nat.reduceLeDiff, Nat.reduceEqDiff, reduceCtorEq, ↓reduceIte, reduceCtorEq, fmN, fm0, take_N, toN1, slN_nil, get_flat_part lenN, get_flat_drop lenN, len_flat lenN, cfg0, encN, slN, st_slZ, os_slZ]
    refine callO.pc pc6 ?_
    simp (config := { maxSteps := 2000000 }) -implicitDefEqProofs +contextual (disch := first | assumption | omega | decide +kernel) only [push_cast, ↓capI, br2_true, br2_false, frk_tt, frk_tf, frk_f, frkD_tt, frkD_tf, frkD_f, pk2_true, pk2_false, imp_true, seval, Nat.reduceLeDiff, Nat.reduceEqDiff, reduceCtorEq, ↓reduceIte, reduceCtorEq, fmN, fm0, take_N, toN1, slN_nil, get_flat_part lenN, get_flat_drop lenN, len_flat lenN, cfg0, encN, slN, st_slZ, os_slZ]
    refine endK.ret ?_ (by first | rfl | simp [bel_LN, belN, bel_Ns, bel_slN, bel_Sp, bel_slZ, bel_slC]); simp [evRes, getT, retV, Tryz.f3]
  rw [hh] at h5
  have hl : l.length ≤ 4000000 := by have := heavy_len hh; omega
  obtain ⟨R, hR⟩ := spaceL_ex l
  have hlen := spaceL_len hR
  have h7 := pc7 l hl R hR
  have h8 := pc8 l hl R hR
  have h9 := pc9z R.1 (R.1.getD []) (by omega) (by omega)
  rw [enSp] at h7
  rw [encLE, laxSp] at h8
  refine PC.walk tok mixed cfg0 Tryz.func3 rfl Tryz.call3 (by simp [bel_LN, belN, bel_Ns, bel_slN, bel_Sp, bel_slZ, bel_slC]) (by first | rfl | simp [bel_LN, belN, bel_Ns, bel_slN, bel_Sp, bel_slZ, bel_slC]) ?_; simp (config := { maxSteps := 2000000 }) -implicitDefEqProofs +contextual (disch := first | assumption | omega | decide +kernel) only [push_cast, ↓capI, br2_true, br2_false, frk_tt, frk_tf, frk_f, frkD_tt, frkD_tf, frkD_f, pk2_true, pk2_false, imp_true, seval, Nat.reduceLeDiff, Nat.reduceEqDiff, reduceCtorEq, ↓reduceIte, reduceCtorEq, fmN, fm0, take_N, toN1, slN_nil, get_flat_part lenN, get_flat_drop lenN, len_flat lenN, cfg0, encN, slN, st_slZ, os_slZ, Tryz.ntmps3]
  refine callO.pc h5 ?_
  simp (config := { maxSteps := 2000000 }) -implicitDefEqProofs +contextual (disch := first | assumption | omega | decide +kernel) only [push_cast, ↓capI, br2_true, br2_false, frk_tt, frk_tf, frk_f, frkD_tt, frkD_tf, frkD_f, pk2_true, pk2_false, imp_true, seval, Nat.reduceLeDiff, Nat.reduceEqDiff, reduceCtorEq, ↓reduceIte, reduceCtorEq, fmN, fm0, take_N, toN1, slN_nil, get_flat_part lenN, get_flat_drop lenN, len_flat lenN, cfg0, encN, slN, st_slZ, os_slZ]
  refine callO.pc h7 ?_
  simp (config := { maxSteps := 2000000 }) -implicitDefEqProofs +contextual (disch := first | assumption | omega | decide +kernel) only [push_cast, ↓capI, br2_true, br2_false, frk_tt, frk_tf, frk_f, frkD_tt, frkD_tf, frkD_f, pk2_true, pk2_false, imp_true, seval, Nat.reduceLeDiff, Nat.reduceEqDiff, reduceCtorEq, ↓reduceIte, reduceCtorEq, fmN, fm0, take_N, toN1, slN_nil, get_flat_part lenN, get_flat_drop lenN, len_flat lenN, cfg0, encN, slN, st_slZ, os_slZ]
  refine callO.pc h8 ?_
  simp (config := { maxSteps := 2000000 }) -implicitDefEqProofs +contextual (disch := first | assumption | omega | decide +kernel) only [push_cast, ↓capI, br2_true, br2_false, frk_tt, frk_tf, frk_f, frkD_tt, frkD_tf, frkD_f, pk2_true, pk2_false, imp_true, seval, Nat.reduceLeDiff, Nat.reduceEqDiff, reduceCtorEq, ↓reduceIte, reduceCtorEq, fmN, fm0, take_N, toN1, slN_nil, get_flat_part lenN, get_flat_drop lenN, len_flat lenN, cfg0, encN, slN, st_slZ, os_slZ]
  refine callO.pc h9 ?_
  simp (config := { maxSteps := 2000000 }) -implicitDefEqProofs +contextual (disch := first | assumption | omega | decide +kernel) only [push_cast, ↓capI, br2_true, br2_false, frk_tt, frk_tf, frk_f, frkD_tt, frkD_tf, frkD_f, pk2_true, pk2_false, imp_true, seval, Nat.reduceLeDiff, Nat.reduceEqDiff, reduceCtorEq, ↓reduceIte, reduceCtorEq, fmN, fm0, take_N, toN1, slN_nil, get_flat_part lenN, get_flat_drop lenN, len_flat lenN, cfg0, encN, slN, st_slZ, os_slZ]
  refine callO.pc pc6 ?_
  simp (config := { maxSteps := 2000000 }) -implicitDefEqProofs +contextual (disch := first | assumption | omega | decide +kernel) only [push_cast, ↓capI, br2_true, br2_false, frk_tt, frk_tf, frk_f, frkD_tt, frkD_tf, frkD_f, pk2_true, pk2_false, imp_true, seval, Nat.reduceLeDiff, Nat.reduceEqDiff, reduceCtorEq, ↓reduceIte, reduceCtorEq, fmN, fm0, take_N, toN1, slN_nil, get_flat_part lenN, get_flat_drop lenN, len_flat lenN, cfg0, encN, slN, st_slZ, os_slZ]
  refine endK.ret ?_ (by first | rfl | simp [bel_LN, belN, bel_Ns, bel_slN, bel_Sp, bel_slZ, bel_slC]); simp [evRes, getT, retV, Tryz.f3]
theorem law3 (xs : List V) (h : TypA tt 8 [22] xs) : PC Tryz.prog 3 xs (.bool true) := by
  obtain ⟨v, vs, cs, rfl, rfl, h1, h⟩ := typA_cons h
  obtain rfl := typA_nil h
  obtain ⟨a, ha, hn⟩ := typ_slNb h1
  refine PC.lax ?_
  rw [laxs, laxs, ha]
  exact pc3 a hn
end Go.Proofs.YtllfdnbnkncnhaaGreatDoor


/-
  Chapter 8: the law CubesetMembers as a contract.
-/
import Derived.Test.YtopnabckbpogeaaL11
import Derived.Test.YtopnabckbpogeaaPlain2
set_option maxRecDepth 100000
set_option maxHeartbeats 4000000
set_option linter.all false
namespace Go.Proofs.Ytopnabckbpogeaa
open Go.Vm Go.ChangeShapes Go.WideShapes Go.ChangeAt Go.RowKit

def encN (n : W64) : List V := [.int .u64 n.toNat]
def encQ (x : Int) (l : List W64) : List V := [.int .u8 x, .sl false (l.flatMap encN) l.length]
theorem lenN (n : W64) : (encN n).length = 1 := rfl
theorem bel_Ns {k : Nat} {l : List W64} : belAll k (l.flatMap encN) = true := belAll_flat (fun _ => rfl) l
theorem bel_encQ {k : Nat} {x : Int} {l : List W64} : belAll k (encQ x l) = true := by
  have : belAll k (l.flatMap encN) = true := belAll_flat (fun _ => rfl) l
  simp [encQ, belAll_cons, belAll_nil, bel_int, bel_sl, this]
theorem restr_any {a : List Cu} {n : W64} {k : Nat} : restr a n k = anyMem (a.map fun c => cutC c k) n := by
  rw [restr, anyMem, List.any_map]
  congr 1
  funext c
  rw [Function.comp, cutC, mem_canon, mem, BitVec.xor_comm]
theorem inter8_ok {a b : List Cu} (h : a.length * b.length ≤ 1024) : (inter8 a b).2 = 0 := by
  have key : ∀ (xs out : List Cu), out.length + xs.length * b.length ≤ 1024 → (interGo b xs out).2 = 0 := by
    intro xs
    induction xs with
    | nil => intro _ _; rfl
    | cons x xs ih =>
      intro out ho
      rw [List.length_cons, Nat.add_mul, Nat.one_mul] at ho
      have e1 := meets_len (x := x) (b := b)
      have e2 := simp8_len (l := out ++ meets x b)
      rw [List.length_append] at e2
      rw [interGo, if_neg (by omega)]
      exact ih _ (by omega)
  exact key a [] (by simpa using h)
theorem fin8_ok {l : List Cu} (h : l.length ≤ 1024) : (fin8 l).2 = 0 := by
  have e2 := simp8_len (l := l)
  rw [fin8, if_neg (by omega)]
theorem compl_any {a r : List Cu} {k : Nat} {n : W64} (h1 : 1 ≤ k) (h2 : k ≤ 64) (h : compl8 a k = (r, 0)) : anyMem r n = !restr a n k := by
  rw [(subt8_spec h1 h2 h).2.1 n, restr_any]
  simp [anyMem, cutC, mem]
theorem subt_any {a b r : List Cu} {k : Nat} {n : W64} (h1 : 1 ≤ k) (h2 : k ≤ 64) (h : subt8 a b k = (r, 0)) : anyMem r n = (restr a n k && !restr b n k) := by
  rw [(subt8_spec h1 h2 h).2.1 n, restr_any, restr_any]
theorem pair_eta {α β : Type} {p : α × β} {x : β} (h : p.2 = x) : p = (p.1, x) := by rw [← h]
theorem pc12 (a b : List Cu) (x : Int) (q : List W64) (hx : 0 ≤ x ∧ x ≤ 255) : PC Try.prog 12 [slC a, slC b, .agg (encQ x q)] (.bool true) := by
  obtain ⟨k, hk, h1, h2⟩ : ∃ k : Nat, 1 + x % 64 = k ∧ 1 ≤ k ∧ k ≤ 64 := ⟨(1 + x % 64).toNat, by omega, by omega, by omega⟩
  have hk2 : IntKind.i64.wrap (1 + IntKind.i64.wrap (x.tmod 64)) = (k : Int) := by
    have e : x.tmod 64 = x % 64 := Int.tmod_eq_emod_of_nonneg hx.1
    rw [e, i64_ok (n := x % 64) (by omega) (by omega), hk, i64_ok (by omega) (by omega)]
  refine PC.walk tok mixed cfg0 Try.func12 rfl Try.call12 (by simp [bel_int, bel_bool, bel_str, bel_nilp, bel_nili, bel_nilf, bel_nilm, bel_dead, bel_agg, bel_tup, bel_sl, bel_fp, bel_buf, bel_ptr, bel_mp, bel_ifc, bel_fn, bel_opt, belAll_nil, belAll_cons, belO_cells, belO_dead, belO_unborn, belObs_nil, belObs_cons, belObs_append, belAll_tab, belObs_tab, belObs_tabN, belC, bel_Cs, bel_slC, bel_encLE, bel_encQ, bel_Ns]) (by first | rfl | simp [bel_int, bel_bool, bel_str, bel_nilp, bel_nili, bel_nilf, bel_nilm, bel_dead, bel_agg, bel_tup, bel_sl, bel_fp, bel_buf, bel_ptr, bel_mp, bel_ifc, bel_fn, bel_opt, belAll_nil, belAll_cons, belO_cells, belO_dead, belO_unborn, belObs_nil, belObs_cons, belObs_append, belAll_tab, belObs_tab, belObs_tabN, belC, bel_Cs, bel_slC, bel_encLE, bel_encQ, bel_Ns]) ?_; simp (config := { maxSteps := 2000000 }) -implicitDefEqProofs +contextual (disch := first | assumption | omega | decide +kernel) only [push_cast, ↓capI, br2_true, br2_false, frk_tt, frk_tf, frk_f, frkD_tt, frkD_tf, frkD_f, pk2_true, pk2_false, imp_true, Nat.reduceAdd, Nat.reduceSub, Nat.reduceMul, Nat.reduceLeDiff, Nat.reduceLT, reduceCtorEq, ↓reduceIte, Nat.reduceEqDiff, Nat.reduceSub, Nat.reduceMul, Int.reduceNeg, Int.reduceLT, Int.reduceLE, Int.reduceAdd, Int.reduceSub, Int.reduceMul, Int.reduceEq, Int.reduceToNat, Nat.reduceDiv, Nat.reduceMod, Nat.reduceBEq, Nat.reduceBNe, reduceCtorEq, tt_25, tt_23, tt_3, tt_4, tt_5, tt_26, tt_35, tt_36, tt_38, tt_9, tt_64, tt_66, encC, List.cons_append, List.nil_append, cfg0, ib_and, ib_or, ib_xor, ib_andNot, w_ofInt, w_eqb, w_eqb0, w_inj, w_zero, w_wrap, BitVec.reduceOfInt, slC, encLE, encQ, Try.ntmps12]
  rw [hk2]
  refine callO.pc (pc44 a b) ?_
  by_cases hs : a.length ≤ 10 ∧ b.length ≤ 8
  case neg =>
    rw [small_no hs]
    simp (config := { maxSteps := 2000000 }) -implicitDefEqProofs +contextual (disch := first | assumption | omega | decide +kernel) only [push_cast, ↓capI, br2_true, br2_false, frk_tt, frk_tf, frk_f, frkD_tt, frkD_tf, frkD_f, pk2_true, pk2_false, imp_true, Nat.reduceAdd, Nat.reduceSub, Nat.reduceMul, Nat.reduceLeDiff, Nat.reduceLT, reduceCtorEq, ↓reduceIte, Nat.reduceEqDiff, Nat.reduceSub, Nat.reduceMul, Int.reduceNeg, Int.reduceLT, Int.reduceLE, Int.reduceAdd, Int.reduceSub, Int.reduceMul, Int.reduceEq, Int.reduceToNat, Nat.reduceDiv, Nat.reduceMod, Nat.reduceBEq, Nat.reduceBNe, reduceCtorEq, tt_25, tt_23, tt_3, tt_4, tt_5, tt_26, tt_35, tt_36, tt_38, tt_9, tt_64, tt_66, encC, List.cons_append, List.nil_append, cfg0, ib_and, ib_or, ib_xor, ib_andNot, w_ofInt, w_eqb, w_eqb0, w_inj, w_zero, w_wrap, BitVec.reduceOfInt, slC, encLE, encQ]
    refine callO.pc pc36 ?_
    simp (config := { maxSteps := 2000000 }) -implicitDefEqProofs +contextual (disch := first | assumption | omega | decide +kernel) only [push_cast, ↓capI, br2_true, br2_false, frk_tt, frk_tf, frk_f, frkD_tt, frkD_tf, frkD_f, pk2_true, pk2_false, imp_true, Nat.reduceAdd, Nat.reduceSub, Nat.reduceMul, Nat.reduceLeDiff, Nat.reduceLT, reduceCtorEq, ↓reduceIte, Nat.reduceEqDiff, Nat.reduceSub, Nat.reduceMul, Int.reduceNeg, Int.reduceLT, Int.reduceLE, Int.reduceAdd, Int.reduceSub, Int.reduceMul, Int.reduceEq, Int.reduceToNat, Nat.reduceDiv, Nat.reduceMod, Nat.reduceBEq, Nat.reduceBNe, reduceCtorEq, tt_25, tt_23, tt_3, tt_4, tt_5, tt_26, tt_35, tt_36, tt_38, tt_9, tt_64, tt_66, encC, List.cons_append, List.nil_append, cfg0, ib_and, ib_or, ib_xor, ib_andNot, w_ofInt, w_eqb, w_eqb0, w_inj, w_zero, w_wrap, BitVec.reduceOfInt, slC, encLE, encQ]
    refine endK.ret ?_ (by first | rfl | simp [bel_int, bel_bool, bel_str, bel_nilp, bel_nili, bel_nilf, bel_nilm, bel_dead, bel_agg, bel_tup, bel_sl, bel_fp, bel_buf, bel_ptr, bel_mp, bel_ifc, bel_fn, bel_opt, belAll_nil, belAll_cons, belO_cells, belO_dead, belO_unborn, belObs_nil, belObs_cons, belObs_append, belAll_tab, belObs_tab, belObs_tabN, belC, bel_Cs, bel_slC, bel_encLE, bel_encQ, bel_Ns]); simp [evRes, getT, retV, Try.f12]
  obtain ⟨hs1, hs2⟩ := hs
  rw [decide_eq_true hs1, decide_eq_true hs2]
  simp (config := { maxSteps := 2000000 }) -implicitDefEqProofs +contextual (disch := first | assumption | omega | decide +kernel) only [push_cast, ↓capI, br2_true, br2_false, frk_tt, frk_tf, frk_f, frkD_tt, frkD_tf, frkD_f, pk2_true, pk2_false, imp_true, Nat.reduceAdd, Nat.reduceSub, Nat.reduceMul, Nat.reduceLeDiff, Nat.reduceLT, reduceCtorEq, ↓reduceIte, Nat.reduceEqDiff, Nat.reduceSub, Nat.reduceMul, Int.reduceNeg, Int.reduceLT, Int.reduceLE, Int.reduceAdd, Int.reduceSub, Int.reduceMul, Int.reduceEq, Int.reduceToNat, Nat.reduceDiv, Nat.reduceMod, Nat.reduceBEq, Nat.reduceBNe, reduceCtorEq, tt_25, tt_23, tt_3, tt_4, tt_5, tt_26, tt_35, tt_36, tt_38, tt_9, tt_64, tt_66, encC, List.cons_append, List.nil_append, cfg0, ib_and, ib_or, ib_xor, ib_andNot, w_ofInt, w_eqb, w_eqb0, w_inj, w_zero, w_wrap, BitVec.reduceOfInt, slC, encLE, encQ]
  refine ⟨fun _ => ?_, fun hq => ?_⟩
  · refine callO.pc pc36 ?_
    simp (config := { maxSteps := 2000000 }) -implicitDefEqProofs +contextual (disch := first | assumption | omega | decide +kernel) only [push_cast, ↓capI, br2_true, br2_false, frk_tt, frk_tf, frk_f, frkD_tt, frkD_tf, frkD_f, pk2_true, pk2_false, imp_true, Nat.reduceAdd, Nat.reduceSub, Nat.reduceMul, Nat.reduceLeDiff, Nat.reduceLT, reduceCtorEq, ↓reduceIte, Nat.reduceEqDiff, Nat.reduceSub, Nat.reduceMul, Int.reduceNeg, Int.reduceLT, Int.reduceLE, Int.reduceAdd, Int.reduceSub, Int.reduceMul, Int.reduceEq, Int.reduceToNat, Nat.reduceDiv, Nat.reduceMod, Nat.reduceBEq, Nat.reduceBNe, reduceCtorEq, tt_25, tt_23, tt_3, tt_4, tt_5, tt_26, tt_35, tt_36, tt_38, tt_9, tt_64, tt_66, encC, List.cons_append, List.nil_append, cfg0, ib_and, ib_or, ib_xor, ib_andNot, w_ofInt, w_eqb, w_eqb0, w_inj, w_zero, w_wrap, BitVec.reduceOfInt, slC, encLE, encQ]
    refine endK.ret ?_ (by first | rfl | simp [bel_int, bel_bool, bel_str, bel_nilp, bel_nili, bel_nilf, bel_nilm, bel_dead, bel_agg, bel_tup, bel_sl, bel_fp, bel_buf, bel_ptr, bel_mp, bel_ifc, bel_fn, bel_opt, belAll_nil, belAll_cons, belO_cells, belO_dead, belO_unborn, belObs_nil, belObs_cons, belObs_append, belAll_tab, belObs_tab, belObs_tabN, belC, bel_Cs, bel_slC, bel_encLE, bel_encQ, bel_Ns]); simp [evRes, getT, retV, Try.f12]
  have hq : q.length ≤ 20 := by omega
  refine callO.pc (pc39 a b (by omega) (by omega)) ?_
  have eU := fin8_ok (l := a ++ b) (by rw [List.length_append]; omega)
  have lU := @fin8_len (a ++ b)
  have mU : ∀ n, anyMem (fin8 (a ++ b)).1 n = (anyMem a n || anyMem b n) := fun n => by rw [fin8_spec (pair_eta eU), simp8_any, any_append]
  rw [pair_eta eU]
  generalize (fin8 (a ++ b)).1 = U at lU mU ⊢
  simp (config := { maxSteps := 2000000 }) -implicitDefEqProofs +contextual (disch := first | assumption | omega | decide +kernel) only [push_cast, ↓capI, br2_true, br2_false, frk_tt, frk_tf, frk_f, frkD_tt, frkD_tf, frkD_f, pk2_true, pk2_false, imp_true, Nat.reduceAdd, Nat.reduceSub, Nat.reduceMul, Nat.reduceLeDiff, Nat.reduceLT, reduceCtorEq, ↓reduceIte, Nat.reduceEqDiff, Nat.reduceSub, Nat.reduceMul, Int.reduceNeg, Int.reduceLT, Int.reduceLE, Int.reduceAdd, Int.reduceSub, Int.reduceMul, Int.reduceEq, Int.reduceToNat, Nat.reduceDiv, Nat.reduceMod, Nat.reduceBEq, Nat.reduceBNe, reduceCtorEq, tt_25, tt_23, tt_3, tt_4, tt_5, tt_26, tt_35, tt_36, tt_38, tt_9, tt_64, tt_66, encC, List.cons_append, List.nil_append, cfg0, ib_and, ib_or, ib_xor, ib_andNot, w_ofInt, w_eqb, w_eqb0, w_inj, w_zero, w_wrap, BitVec.reduceOfInt, slC, encLE, encQ]
  refine callO.pc (pc47 a b (by omega) (by omega)) ?_
  have eI := inter8_ok (a := a) (b := b) (Nat.le_trans (Nat.mul_le_mul hs1 hs2) (by decide))
  have lI := @inter8_len a b
  have mI : ∀ n, anyMem (inter8 a b).1 n = (anyMem a n && anyMem b n) := fun n => (inter8_spec (pair_eta eI)).1 n
  rw [pair_eta eI]
  generalize (inter8 a b).1 = I at lI mI ⊢
  simp (config := { maxSteps := 2000000 }) -implicitDefEqProofs +contextual (disch := first | assumption | omega | decide +kernel) only [push_cast, ↓capI, br2_true, br2_false, frk_tt, frk_tf, frk_f, frkD_tt, frkD_tf, frkD_f, pk2_true, pk2_false, imp_true, Nat.reduceAdd, Nat.reduceSub, Nat.reduceMul, Nat.reduceLeDiff, Nat.reduceLT, reduceCtorEq, ↓reduceIte, Nat.reduceEqDiff, Nat.reduceSub, Nat.reduceMul, Int.reduceNeg, Int.reduceLT, Int.reduceLE, Int.reduceAdd, Int.reduceSub, Int.reduceMul, Int.reduceEq, Int.reduceToNat, Nat.reduceDiv, Nat.reduceMod, Nat.reduceBEq, Nat.reduceBNe, reduceCtorEq, tt_25, tt_23, tt_3, tt_4, tt_5, tt_26, tt_35, tt_36, tt_38, tt_9, tt_64, tt_66, encC, List.cons_append, List.nil_append, cfg0, ib_and, ib_or, ib_xor, ib_andNot, w_ofInt, w_eqb, w_eqb0, w_inj, w_zero, w_wrap, BitVec.reduceOfInt, slC, encLE, encQ]
  refine callO.pc (pc49 a b k (by omega) (by omega)) ?_
  have lS := @subt8_len a b k
  have mS := fun r n => subt_any (n := n) (r := r) (a := a) (b := b) h1 h2
  generalize subt8 a b (k : Int) = S at lS mS ⊢
  obtain ⟨S, g⟩ := S
  simp (config := { maxSteps := 2000000 }) -implicitDefEqProofs +contextual (disch := first | assumption | omega | decide +kernel) only [push_cast, ↓capI, br2_true, br2_false, frk_tt, frk_tf, frk_f, frkD_tt, frkD_tf, frkD_f, pk2_true, pk2_false, imp_true, Nat.reduceAdd, Nat.reduceSub, Nat.reduceMul, Nat.reduceLeDiff, Nat.reduceLT, reduceCtorEq, ↓reduceIte, Nat.reduceEqDiff, Nat.reduceSub, Nat.reduceMul, Int.reduceNeg, Int.reduceLT, Int.reduceLE, Int.reduceAdd, Int.reduceSub, Int.reduceMul, Int.reduceEq, Int.reduceToNat, Nat.reduceDiv, Nat.reduceMod, Nat.reduceBEq, Nat.reduceBNe, reduceCtorEq, tt_25, tt_23, tt_3, tt_4, tt_5, tt_26, tt_35, tt_36, tt_38, tt_9, tt_64, tt_66, encC, List.cons_append, List.nil_append, cfg0, ib_and, ib_or, ib_xor, ib_andNot, w_ofInt, w_eqb, w_eqb0, w_inj, w_zero, w_wrap, BitVec.reduceOfInt, slC, encLE, encQ]
  refine callO.pc (pc51 a k (by omega)) ?_
  have lC := @subt8_len [⟨0#64, 0#64⟩] a k
  have mC := fun r n => compl_any (n := n) (r := r) (a := a) h1 h2
  rw [← compl8] at lC
  generalize compl8 a (k : Int) = C at lC mC ⊢
  obtain ⟨C, h⟩ := C
  simp (config := { maxSteps := 2000000 }) -implicitDefEqProofs +contextual (disch := first | assumption | omega | decide +kernel) only [push_cast, ↓capI, br2_true, br2_false, frk_tt, frk_tf, frk_f, frkD_tt, frkD_tf, frkD_f, pk2_true, pk2_false, imp_true, Nat.reduceAdd, Nat.reduceSub, Nat.reduceMul, Nat.reduceLeDiff, Nat.reduceLT, reduceCtorEq, ↓reduceIte, Nat.reduceEqDiff, Nat.reduceSub, Nat.reduceMul, Int.reduceNeg, Int.reduceLT, Int.reduceLE, Int.reduceAdd, Int.reduceSub, Int.reduceMul, Int.reduceEq, Int.reduceToNat, Nat.reduceDiv, Nat.reduceMod, Nat.reduceBEq, Nat.reduceBNe, reduceCtorEq, tt_25, tt_23, tt_3, tt_4, tt_5, tt_26, tt_35, tt_36, tt_38, tt_9, tt_64, tt_66, encC, List.cons_append, List.nil_append, cfg0, ib_and, ib_or, ib_xor, ib_andNot, w_ofInt, w_eqb, w_eqb0, w_inj, w_zero, w_wrap, BitVec.reduceOfInt, slC, encLE, encQ]
  refine callO.pc (pc37 a (by omega)) ?_
  have lT := @simp8_len a
  have mT := fun n => @simp8_any a n
  generalize simp8 a = R at lT mT ⊢
  simp (config := { maxSteps := 2000000 }) -implicitDefEqProofs +contextual (disch := first | assumption | omega | decide +kernel) only [push_cast, ↓capI, br2_true, br2_false, frk_tt, frk_tf, frk_f, frkD_tt, frkD_tf, frkD_f, pk2_true, pk2_false, imp_true, Nat.reduceAdd, Nat.reduceSub, Nat.reduceMul, Nat.reduceLeDiff, Nat.reduceLT, reduceCtorEq, ↓reduceIte, Nat.reduceEqDiff, Nat.reduceSub, Nat.reduceMul, Int.reduceNeg, Int.reduceLT, Int.reduceLE, Int.reduceAdd, Int.reduceSub, Int.reduceMul, Int.reduceEq, Int.reduceToNat, Nat.reduceDiv, Nat.reduceMod, Nat.reduceBEq, Nat.reduceBNe, reduceCtorEq, tt_25, tt_23, tt_3, tt_4, tt_5, tt_26, tt_35, tt_36, tt_38, tt_9, tt_64, tt_66, encC, List.cons_append, List.nil_append, cfg0, ib_and, ib_or, ib_xor, ib_andNot, w_ofInt, w_eqb, w_eqb0, w_inj, w_zero, w_wrap, BitVec.reduceOfInt, slC, encLE, encQ]
  simp only at lS lC
  refine T.lp tok mixed cfg0 (fun (j : Nat) => kp 2 (dd 3 (kp 1 (dd 1 (kp 10 (sv (.int .i64 j) (dd 133 (nl)))))))) (fun H0 (j : Nat) => H0) (fun (j : Nat) => j ≤ q.length) (fun (j : Nat) => q.length - j) (0) ?_ ?_ ?_
  · exact Nat.zero_le _
  · exact Gn.canon (J := []) (by first | rfl | (simp [List.append_nil]; done) | (simp [List.append_nil]; rfl)) (by simp [wk, slC, putT, kp, dd, sv, nl]) (by simp [List.length_append]) (by simp [bel_int, bel_bool, bel_str, bel_nilp, bel_nili, bel_nilf, bel_nilm, bel_dead, bel_agg, bel_tup, bel_sl, bel_fp, bel_buf, bel_ptr, bel_mp, bel_ifc, bel_fn, bel_opt, belAll_nil, belAll_cons, belO_cells, belO_dead, belO_unborn, belObs_nil, belObs_cons, belObs_append, belAll_tab, belObs_tab, belObs_tabN, belC, bel_Cs, bel_slC, bel_encLE, bel_encQ, bel_Ns, kp, dd, sv, nl]) (by simp [bel_int, bel_bool, bel_str, bel_nilp, bel_nili, bel_nilf, bel_nilm, bel_dead, bel_agg, bel_tup, bel_sl, bel_fp, bel_buf, bel_ptr, bel_mp, bel_ifc, bel_fn, bel_opt, belAll_nil, belAll_cons, belO_cells, belO_dead, belO_unborn, belObs_nil, belObs_cons, belObs_append, belAll_tab, belObs_tab, belObs_tabN, belC, bel_Cs, bel_slC, bel_encLE, bel_encQ, bel_Ns])
  intro j hj
  simp (config := { maxSteps := 2000000 }) -implicitDefEqProofs +contextual (disch := first | assumption | omega | decide +kernel) only [push_cast, ↓capI, br2_true, br2_false, frk_tt, frk_tf, frk_f, frkD_tt, frkD_tf, frkD_f, pk2_true, pk2_false, imp_true, Nat.reduceAdd, Nat.reduceSub, Nat.reduceMul, Nat.reduceLeDiff, Nat.reduceLT, reduceCtorEq, ↓reduceIte, Nat.reduceEqDiff, Nat.reduceSub, Nat.reduceMul, Int.reduceNeg, Int.reduceLT, Int.reduceLE, Int.reduceAdd, Int.reduceSub, Int.reduceMul, Int.reduceEq, Int.reduceToNat, Nat.reduceDiv, Nat.reduceMod, Nat.reduceBEq, Nat.reduceBNe, reduceCtorEq, tt_25, tt_23, tt_3, tt_4, tt_5, tt_26, tt_35, tt_36, tt_38, tt_9, tt_64, tt_66, encC, List.cons_append, List.nil_append, cfg0, ib_and, ib_or, ib_xor, ib_andNot, w_ofInt, w_eqb, w_eqb0, w_inj, w_zero, w_wrap, BitVec.reduceOfInt, slC, encLE, encQ, get_flat_part lenN, get_flat_drop lenN, len_flat lenN, encN]
  refine ⟨fun hlt => ?_, fun hge => ?_⟩
  case refine_2 =>
    refine callO.pc pc36 ?_
    simp (config := { maxSteps := 2000000 }) -implicitDefEqProofs +contextual (disch := first | assumption | omega | decide +kernel) only [push_cast, ↓capI, br2_true, br2_false, frk_tt, frk_tf, frk_f, frkD_tt, frkD_tf, frkD_f, pk2_true, pk2_false, imp_true, Nat.reduceAdd, Nat.reduceSub, Nat.reduceMul, Nat.reduceLeDiff, Nat.reduceLT, reduceCtorEq, ↓reduceIte, Nat.reduceEqDiff, Nat.reduceSub, Nat.reduceMul, Int.reduceNeg, Int.reduceLT, Int.reduceLE, Int.reduceAdd, Int.reduceSub, Int.reduceMul, Int.reduceEq, Int.reduceToNat, Nat.reduceDiv, Nat.reduceMod, Nat.reduceBEq, Nat.reduceBNe, reduceCtorEq, tt_25, tt_23, tt_3, tt_4, tt_5, tt_26, tt_35, tt_36, tt_38, tt_9, tt_64, tt_66, encC, List.cons_append, List.nil_append, cfg0, ib_and, ib_or, ib_xor, ib_andNot, w_ofInt, w_eqb, w_eqb0, w_inj, w_zero, w_wrap, BitVec.reduceOfInt, slC, encLE, encQ]
    refine endK.ret ?_ (by first | rfl | simp [bel_int, bel_bool, bel_str, bel_nilp, bel_nili, bel_nilf, bel_nilm, bel_dead, bel_agg, bel_tup, bel_sl, bel_fp, bel_buf, bel_ptr, bel_mp, bel_ifc, bel_fn, bel_opt, belAll_nil, belAll_cons, belO_cells, belO_dead, belO_unborn, belObs_nil, belObs_cons, belObs_append, belAll_tab, belObs_tab, belObs_tabN, belC, bel_Cs, bel_slC, bel_encLE, bel_encQ, bel_Ns]); simp [evRes, getT, retV, Try.f12]
  refine callO.pc (pc40 q[j] k h1 h2) ?_
  generalize q[j] &&& low k = n
  simp (config := { maxSteps := 2000000 }) -implicitDefEqProofs +contextual (disch := first | assumption | omega | decide +kernel) only [push_cast, ↓capI, br2_true, br2_false, frk_tt, frk_tf, frk_f, frkD_tt, frkD_tf, frkD_f, pk2_true, pk2_false, imp_true, Nat.reduceAdd, Nat.reduceSub, Nat.reduceMul, Nat.reduceLeDiff, Nat.reduceLT, reduceCtorEq, ↓reduceIte, Nat.reduceEqDiff, Nat.reduceSub, Nat.reduceMul, Int.reduceNeg, Int.reduceLT, Int.reduceLE, Int.reduceAdd, Int.reduceSub, Int.reduceMul, Int.reduceEq, Int.reduceToNat, Nat.reduceDiv, Nat.reduceMod, Nat.reduceBEq, Nat.reduceBNe, reduceCtorEq, tt_25, tt_23, tt_3, tt_4, tt_5, tt_26, tt_35, tt_36, tt_38, tt_9, tt_64, tt_66, encC, List.cons_append, List.nil_append, cfg0, ib_and, ib_or, ib_xor, ib_andNot, w_ofInt, w_eqb, w_eqb0, w_inj, w_zero, w_wrap, BitVec.reduceOfInt, slC, encLE, encQ]
  refine callO.pc (pc41 a n (by omega)) ?_
  simp (config := { maxSteps := 2000000 }) -implicitDefEqProofs +contextual (disch := first | assumption | omega | decide +kernel) only [push_cast, ↓capI, br2_true, br2_false, frk_tt, frk_tf, frk_f, frkD_tt, frkD_tf, frkD_f, pk2_true, pk2_false, imp_true, Nat.reduceAdd, Nat.reduceSub, Nat.reduceMul, Nat.reduceLeDiff, Nat.reduceLT, reduceCtorEq, ↓reduceIte, Nat.reduceEqDiff, Nat.reduceSub, Nat.reduceMul, Int.reduceNeg, Int.reduceLT, Int.reduceLE, Int.reduceAdd, Int.reduceSub, Int.reduceMul, Int.reduceEq, Int.reduceToNat, Nat.reduceDiv, Nat.reduceMod, Nat.reduceBEq, Nat.reduceBNe, reduceCtorEq, tt_25, tt_23, tt_3, tt_4, tt_5, tt_26, tt_35, tt_36, tt_38, tt_9, tt_64, tt_66, encC, List.cons_append, List.nil_append, cfg0, ib_and, ib_or, ib_xor, ib_andNot, w_ofInt, w_eqb, w_eqb0, w_inj, w_zero, w_wrap, BitVec.reduceOfInt, slC, encLE, encQ]
  refine callO.pc (pc41 b n (by omega)) ?_
  have uU := mU n
  have uI := mI n
  have uT := mT n
  have uS := fun r => mS r n
  have uC := fun r => mC r n
  have p1 := pc54 a n k (by omega) h1 h2
  have p2 := pc54 b n k (by omega) h1 h2
  generalize anyMem a n = ax at uU uI uT ⊢
  generalize anyMem b n = bx at uU uI ⊢
  generalize restr a n k = ra at uS uC p1 ⊢
  generalize restr b n k = rb at uS p2 ⊢
  clear mU mI mT mS mC
  cases ax <;> cases bx
  all_goals
    simp (config := { maxSteps := 2000000 }) -implicitDefEqProofs +contextual (disch := first | assumption | omega | decide +kernel) only [push_cast, ↓capI, br2_true, br2_false, frk_tt, frk_tf, frk_f, frkD_tt, frkD_tf, frkD_f, pk2_true, pk2_false, imp_true, Nat.reduceAdd, Nat.reduceSub, Nat.reduceMul, Nat.reduceLeDiff, Nat.reduceLT, reduceCtorEq, ↓reduceIte, Nat.reduceEqDiff, Nat.reduceSub, Nat.reduceMul, Int.reduceNeg, Int.reduceLT, Int.reduceLE, Int.reduceAdd, Int.reduceSub, Int.reduceMul, Int.reduceEq, Int.reduceToNat, Nat.reduceDiv, Nat.reduceMod, Nat.reduceBEq, Nat.reduceBNe, reduceCtorEq, tt_25, tt_23, tt_3, tt_4, tt_5, tt_26, tt_35, tt_36, tt_38, tt_9, tt_64, tt_66, encC, List.cons_append, List.nil_append, cfg0, ib_and, ib_or, ib_xor, ib_andNot, w_ofInt, w_eqb, w_eqb0, w_inj, w_zero, w_wrap, BitVec.reduceOfInt, slC, encLE, encQ]
    refine callO.pc (pc53 U n (by omega)) ?_
    rw [uU]
    simp (config := { maxSteps := 2000000 }) -implicitDefEqProofs +contextual (disch := first | assumption | omega | decide +kernel) only [push_cast, ↓capI, br2_true, br2_false, frk_tt, frk_tf, frk_f, frkD_tt, frkD_tf, frkD_f, pk2_true, pk2_false, imp_true, Nat.reduceAdd, Nat.reduceSub, Nat.reduceMul, Nat.reduceLeDiff, Nat.reduceLT, reduceCtorEq, ↓reduceIte, Nat.reduceEqDiff, Nat.reduceSub, Nat.reduceMul, Int.reduceNeg, Int.reduceLT, Int.reduceLE, Int.reduceAdd, Int.reduceSub, Int.reduceMul, Int.reduceEq, Int.reduceToNat, Nat.reduceDiv, Nat.reduceMod, Nat.reduceBEq, Nat.reduceBNe, reduceCtorEq, tt_25, tt_23, tt_3, tt_4, tt_5, tt_26, tt_35, tt_36, tt_38, tt_9, tt_64, tt_66, encC, List.cons_append, List.nil_append, cfg0, ib_and, ib_or, ib_xor, ib_andNot, w_ofInt, w_eqb, w_eqb0, w_inj, w_zero, w_wrap, BitVec.reduceOfInt, slC, encLE, encQ]
    refine callO.pc (pc53 I n (by omega)) ?_
    rw [uI]
    simp (config := { maxSteps := 2000000 }) -implicitDefEqProofs +contextual (disch := first | assumption | omega | decide +kernel) only [push_cast, ↓capI, br2_true, br2_false, frk_tt, frk_tf, frk_f, frkD_tt, frkD_tf, frkD_f, pk2_true, pk2_false, imp_true, Nat.reduceAdd, Nat.reduceSub, Nat.reduceMul, Nat.reduceLeDiff, Nat.reduceLT, reduceCtorEq, ↓reduceIte, Nat.reduceEqDiff, Nat.reduceSub, Nat.reduceMul, Int.reduceNeg, Int.reduceLT, Int.reduceLE, Int.reduceAdd, Int.reduceSub, Int.reduceMul, Int.reduceEq, Int.reduceToNat, Nat.reduceDiv, Nat.reduceMod, Nat.reduceBEq, Nat.reduceBNe, reduceCtorEq, tt_25, tt_23, tt_3, tt_4, tt_5, tt_26, tt_35, tt_36, tt_38, tt_9, tt_64, tt_66, encC, List.cons_append, List.nil_append, cfg0, ib_and, ib_or, ib_xor, ib_andNot, w_ofInt, w_eqb, w_eqb0, w_inj, w_zero, w_wrap, BitVec.reduceOfInt, slC, encLE, encQ]
    refine callO.pc (pc53 R n (by omega)) ?_
    rw [uT]
    simp (config := { maxSteps := 2000000 }) -implicitDefEqProofs +contextual (disch := first | assumption | omega | decide +kernel) only [push_cast, ↓capI, br2_true, br2_false, frk_tt, frk_tf, frk_f, frkD_tt, frkD_tf, frkD_f, pk2_true, pk2_false, imp_true, Nat.reduceAdd, Nat.reduceSub, Nat.reduceMul, Nat.reduceLeDiff, Nat.reduceLT, reduceCtorEq, ↓reduceIte, Nat.reduceEqDiff, Nat.reduceSub, Nat.reduceMul, Int.reduceNeg, Int.reduceLT, Int.reduceLE, Int.reduceAdd, Int.reduceSub, Int.reduceMul, Int.reduceEq, Int.reduceToNat, Nat.reduceDiv, Nat.reduceMod, Nat.reduceBEq, Nat.reduceBNe, reduceCtorEq, tt_25, tt_23, tt_3, tt_4, tt_5, tt_26, tt_35, tt_36, tt_38, tt_9, tt_64, tt_66, encC, List.cons_append, List.nil_append, cfg0, ib_and, ib_or, ib_xor, ib_andNot, w_ofInt, w_eqb, w_eqb0, w_inj, w_zero, w_wrap, BitVec.reduceOfInt, slC, encLE, encQ]
    refine callO.pc p1 ?_
    simp (config := { maxSteps := 2000000 }) -implicitDefEqProofs +contextual (disch := first | assumption | omega | decide +kernel) only [push_cast, ↓capI, br2_true, br2_false, frk_tt, frk_tf, frk_f, frkD_tt, frkD_tf, frkD_f, pk2_true, pk2_false, imp_true, Nat.reduceAdd, Nat.reduceSub, Nat.reduceMul, Nat.reduceLeDiff, Nat.reduceLT, reduceCtorEq, ↓reduceIte, Nat.reduceEqDiff, Nat.reduceSub, Nat.reduceMul, Int.reduceNeg, Int.reduceLT, Int.reduceLE, Int.reduceAdd, Int.reduceSub, Int.reduceMul, Int.reduceEq, Int.reduceToNat, Nat.reduceDiv, Nat.reduceMod, Nat.reduceBEq, Nat.reduceBNe, reduceCtorEq, tt_25, tt_23, tt_3, tt_4, tt_5, tt_26, tt_35, tt_36, tt_38, tt_9, tt_64, tt_66, encC, List.cons_append, List.nil_append, cfg0, ib_and, ib_or, ib_xor, ib_andNot, w_ofInt, w_eqb, w_eqb0, w_inj, w_zero, w_wrap, BitVec.reduceOfInt, slC, encLE, encQ]
    refine callO.pc p2 ?_
    by_cases hg : g = 0
    · have vS := uS S (by rw [hg])
      subst hg
      by_cases hh : h = 0
      · have vC := uC C (by rw [hh])
        subst hh
        cases ra <;> cases rb
        all_goals
          simp (config := { maxSteps := 2000000 }) -implicitDefEqProofs +contextual (disch := first | assumption | omega | decide +kernel) only [push_cast, ↓capI, br2_true, br2_false, frk_tt, frk_tf, frk_f, frkD_tt, frkD_tf, frkD_f, pk2_true, pk2_false, imp_true, Nat.reduceAdd, Nat.reduceSub, Nat.reduceMul, Nat.reduceLeDiff, Nat.reduceLT, reduceCtorEq, ↓reduceIte, Nat.reduceEqDiff, Nat.reduceSub, Nat.reduceMul, Int.reduceNeg, Int.reduceLT, Int.reduceLE, Int.reduceAdd, Int.reduceSub, Int.reduceMul, Int.reduceEq, Int.reduceToNat, Nat.reduceDiv, Nat.reduceMod, Nat.reduceBEq, Nat.reduceBNe, reduceCtorEq, tt_25, tt_23, tt_3, tt_4, tt_5, tt_26, tt_35, tt_36, tt_38, tt_9, tt_64, tt_66, encC, List.cons_append, List.nil_append, cfg0, ib_and, ib_or, ib_xor, ib_andNot, w_ofInt, w_eqb, w_eqb0, w_inj, w_zero, w_wrap, BitVec.reduceOfInt, slC, encLE, encQ]
          refine callO.pc (pc53 S n (by omega)) ?_
          rw [vS]
          simp (config := { maxSteps := 2000000 }) -implicitDefEqProofs +contextual (disch := first | assumption | omega | decide +kernel) only [push_cast, ↓capI, br2_true, br2_false, frk_tt, frk_tf, frk_f, frkD_tt, frkD_tf, frkD_f, pk2_true, pk2_false, imp_true, Nat.reduceAdd, Nat.reduceSub, Nat.reduceMul, Nat.reduceLeDiff, Nat.reduceLT, reduceCtorEq, ↓reduceIte, Nat.reduceEqDiff, Nat.reduceSub, Nat.reduceMul, Int.reduceNeg, Int.reduceLT, Int.reduceLE, Int.reduceAdd, Int.reduceSub, Int.reduceMul, Int.reduceEq, Int.reduceToNat, Nat.reduceDiv, Nat.reduceMod, Nat.reduceBEq, Nat.reduceBNe, reduceCtorEq, tt_25, tt_23, tt_3, tt_4, tt_5, tt_26, tt_35, tt_36, tt_38, tt_9, tt_64, tt_66, encC, List.cons_append, List.nil_append, cfg0, ib_and, ib_or, ib_xor, ib_andNot, w_ofInt, w_eqb, w_eqb0, w_inj, w_zero, w_wrap, BitVec.reduceOfInt, slC, encLE, encQ]
          refine callO.pc (pc53 C n (by omega)) ?_
          rw [vC]
          simp (config := { maxSteps := 2000000 }) -implicitDefEqProofs +contextual (disch := first | assumption | omega | decide +kernel) only [push_cast, ↓capI, br2_true, br2_false, frk_tt, frk_tf, frk_f, frkD_tt, frkD_tf, frkD_f, pk2_true, pk2_false, imp_true, Nat.reduceAdd, Nat.reduceSub, Nat.reduceMul, Nat.reduceLeDiff, Nat.reduceLT, reduceCtorEq, ↓reduceIte, Nat.reduceEqDiff, Nat.reduceSub, Nat.reduceMul, Int.reduceNeg, Int.reduceLT, Int.reduceLE, Int.reduceAdd, Int.reduceSub, Int.reduceMul, Int.reduceEq, Int.reduceToNat, Nat.reduceDiv, Nat.reduceMod, Nat.reduceBEq, Nat.reduceBNe, reduceCtorEq, tt_25, tt_23, tt_3, tt_4, tt_5, tt_26, tt_35, tt_36, tt_38, tt_9, tt_64, tt_66, encC, List.cons_append, List.nil_append, cfg0, ib_and, ib_or, ib_xor, ib_andNot, w_ofInt, w_eqb, w_eqb0, w_inj, w_zero, w_wrap, BitVec.reduceOfInt, slC, encLE, encQ]
          refine ⟨j + 1, by omega, by (try simp only); omega, ?_⟩; exact Gn.canon (by first | rfl | (simp [List.append_nil]; rfl)) (by simp [wk, slC]) (by simp [List.length_append]) (by simp [bel_int, bel_bool, bel_str, bel_nilp, bel_nili, bel_nilf, bel_nilm, bel_dead, bel_agg, bel_tup, bel_sl, bel_fp, bel_buf, bel_ptr, bel_mp, bel_ifc, bel_fn, bel_opt, belAll_nil, belAll_cons, belO_cells, belO_dead, belO_unborn, belObs_nil, belObs_cons, belObs_append, belAll_tab, belObs_tab, belObs_tabN, belC, bel_Cs, bel_slC, bel_encLE, bel_encQ, bel_Ns]) (by simp [bel_int, bel_bool, bel_str, bel_nilp, bel_nili, bel_nilf, bel_nilm, bel_dead, bel_agg, bel_tup, bel_sl, bel_fp, bel_buf, bel_ptr, bel_mp, bel_ifc, bel_fn, bel_opt, belAll_nil, belAll_cons, belO_cells, belO_dead, belO_unborn, belObs_nil, belObs_cons, belObs_append, belAll_tab, belObs_tab, belObs_tabN, belC, bel_Cs, bel_slC, bel_encLE, bel_encQ, bel_Ns])
      · cases ra <;> cases rb
        all_goals
          simp (config := { maxSteps := 2000000 }) -implicitDefEqProofs +contextual (disch := first | assumption | omega | decide +kernel) only [push_cast, ↓capI, br2_true, br2_false, frk_tt, frk_tf, frk_f, frkD_tt, frkD_tf, frkD_f, pk2_true, pk2_false, imp_true, Nat.reduceAdd, Nat.reduceSub, Nat.reduceMul, Nat.reduceLeDiff, Nat.reduceLT, reduceCtorEq, ↓reduceIte, Nat.reduceEqDiff, Nat.reduceSub, Nat.reduceMul, Int.reduceNeg, Int.reduceLT, Int.reduceLE, Int.reduceAdd, Int.reduceSub, Int.reduceMul, Int.reduceEq, Int.reduceToNat, Nat.reduceDiv, Nat.reduceMod, Nat.reduceBEq, Nat.reduceBNe, reduceCtorEq, tt_25, tt_23, tt_3, tt_4, tt_5, tt_26, tt_35, tt_36, tt_38, tt_9, tt_64, tt_66, encC, List.cons_append, List.nil_append, cfg0, ib_and, ib_or, ib_xor, ib_andNot, w_ofInt, w_eqb, w_eqb0, w_inj, w_zero, w_wrap, BitVec.reduceOfInt, slC, encLE, encQ, hh]
          refine callO.pc (pc53 S n (by omega)) ?_
          rw [vS]
          simp (config := { maxSteps := 2000000 }) -implicitDefEqProofs +contextual (disch := first | assumption | omega | decide +kernel) only [push_cast, ↓capI, br2_true, br2_false, frk_tt, frk_tf, frk_f, frkD_tt, frkD_tf, frkD_f, pk2_true, pk2_false, imp_true, Nat.reduceAdd, Nat.reduceSub, Nat.reduceMul, Nat.reduceLeDiff, Nat.reduceLT, reduceCtorEq, ↓reduceIte, Nat.reduceEqDiff, Nat.reduceSub, Nat.reduceMul, Int.reduceNeg, Int.reduceLT, Int.reduceLE, Int.reduceAdd, Int.reduceSub, Int.reduceMul, Int.reduceEq, Int.reduceToNat, Nat.reduceDiv, Nat.reduceMod, Nat.reduceBEq, Nat.reduceBNe, reduceCtorEq, tt_25, tt_23, tt_3, tt_4, tt_5, tt_26, tt_35, tt_36, tt_38, tt_9, tt_64, tt_66, encC, List.cons_append, List.nil_append, cfg0, ib_and, ib_or, ib_xor, ib_andNot, w_ofInt, w_eqb, w_eqb0, w_inj, w_zero, w_wrap, BitVec.reduceOfInt, slC, encLE, encQ, hh]
          refine ⟨j + 1, by omega, by (try simp only); omega, ?_⟩; exact Gn.canon (by first | rfl | (simp [List.append_nil]; rfl)) (by simp [wk, slC]) (by simp [List.length_append]) (by simp [bel_int, bel_bool, bel_str, bel_nilp, bel_nili, bel_nilf, bel_nilm, bel_dead, bel_agg, bel_tup, bel_sl, bel_fp, bel_buf, bel_ptr, bel_mp, bel_ifc, bel_fn, bel_opt, belAll_nil, belAll_cons, belO_cells, belO_dead, belO_unborn, belObs_nil, belObs_cons, belObs_append, belAll_tab, belObs_tab, belObs_tabN, belC, bel_Cs, bel_slC, bel_encLE, bel_encQ, bel_Ns]) (by simp [bel_int, bel_bool, bel_str, bel_nilp, bel_nili, bel_nilf, bel_nilm, bel_dead, bel_agg, bel_tup, bel_sl, bel_fp, bel_buf, bel_ptr, bel_mp, bel_ifc, bel_fn, bel_opt, belAll_nil, belAll_cons, belO_cells, belO_dead, belO_unborn, belObs_nil, belObs_cons, belObs_append, belAll_tab, belObs_tab, belObs_tabN, belC, bel_Cs, bel_slC, bel_encLE, bel_encQ, bel_Ns])
    · by_cases hh : h = 0
      · have vC := uC C (by rw [hh])
        subst hh
        cases ra <;> cases rb
        all_goals
          simp (config := { maxSteps := 2000000 }) -implicitDefEqProofs +contextual (disch := first | assumption | omega | decide +kernel) only [push_cast, ↓capI, br2_true, br2_false, frk_tt, frk_tf, frk_f, frkD_tt, frkD_tf, frkD_f, pk2_true, pk2_false, imp_true, Nat.reduceAdd, Nat.reduceSub, Nat.reduceMul, Nat.reduceLeDiff, Nat.reduceLT, reduceCtorEq, ↓reduceIte, Nat.reduceEqDiff, Nat.reduceSub, Nat.reduceMul, Int.reduceNeg, Int.reduceLT, Int.reduceLE, Int.reduceAdd, Int.reduceSub, Int.reduceMul, Int.reduceEq, Int.reduceToNat, Nat.reduceDiv, Nat.reduceMod, Nat.reduceBEq, Nat.reduceBNe, reduceCtorEq, tt_25, tt_23, tt_3, tt_4, tt_5, tt_26, tt_35, tt_36, tt_38, tt_9, tt_64, tt_66, encC, List.cons_append, List.nil_append, cfg0, ib_and, ib_or, ib_xor, ib_andNot, w_ofInt, w_eqb, w_eqb0, w_inj, w_zero, w_wrap, BitVec.reduceOfInt, slC, encLE, encQ, hg]
          refine callO.pc (pc53 C n (by omega)) ?_
          rw [vC]
          simp (config := { maxSteps := 2000000 }) -implicitDefEqProofs +contextual (disch := first | assumption | omega | decide +kernel) only [push_cast, ↓capI, br2_true, br2_false, frk_tt, frk_tf, frk_f, frkD_tt, frkD_tf, frkD_f, pk2_true, pk2_false, imp_true, Nat.reduceAdd, Nat.reduceSub, Nat.reduceMul, Nat.reduceLeDiff, Nat.reduceLT, reduceCtorEq, ↓reduceIte, Nat.reduceEqDiff, Nat.reduceSub, Nat.reduceMul, Int.reduceNeg, Int.reduceLT, Int.reduceLE, Int.reduceAdd, Int.reduceSub, Int.reduceMul, Int.reduceEq, Int.reduceToNat, Nat.reduceDiv, Nat.reduceMod, Nat.reduceBEq, Nat.reduceBNe, reduceCtorEq, tt_25, tt_23, tt_3, tt_4, tt_5, tt_26, tt_35, tt_36, tt_38, tt_9, tt_64, tt_66, encC, List.cons_append, List.nil_append, cfg0, ib_and, ib_or, ib_xor, ib_andNot, w_ofInt, w_eqb, w_eqb0, w_inj, w_zero, w_wrap, BitVec.reduceOfInt, slC, encLE, encQ, hg]
          refine ⟨j + 1, by omega, by (try simp only); omega, ?_⟩; exact Gn.canon (by first | rfl | (simp [List.append_nil]; rfl)) (by simp [wk, slC]) (by simp [List.length_append]) (by simp [bel_int, bel_bool, bel_str, bel_nilp, bel_nili, bel_nilf, bel_nilm, bel_dead, bel_agg, bel_tup, bel_sl, bel_fp, bel_buf, bel_ptr, bel_mp, bel_ifc, bel_fn, bel_opt, belAll_nil, belAll_cons, belO_cells, belO_dead, belO_unborn, belObs_nil, belObs_cons, belObs_append, belAll_tab, belObs_tab, belObs_tabN, belC, bel_Cs, bel_slC, bel_encLE, bel_encQ, bel_Ns]) (by simp [bel_int, bel_bool, bel_str, bel_nilp, bel_nili, bel_nilf, bel_nilm, bel_dead, bel_agg, bel_tup, bel_sl, bel_fp, bel_buf, bel_ptr, bel_mp, bel_ifc, bel_fn, bel_opt, belAll_nil, belAll_cons, belO_cells, belO_dead, belO_unborn, belObs_nil, belObs_cons, belObs_append, belAll_tab, belObs_tab, belObs_tabN, belC, bel_Cs, bel_slC, bel_encLE, bel_encQ, bel_Ns])
      · cases ra <;> cases rb
        all_goals
          simp (config := { maxSteps := 2000000 }) -implicitDefEqProofs +contextual (disch := first | assumption | omega | decide +kernel) only [push_cast, ↓capI, br2_true, br2_false, frk_tt, frk_tf, frk_f, frkD_tt, frkD_tf, frkD_f, pk2_true, pk2_false, imp_true, Nat.reduceAdd, Nat.reduceSub, Nat.reduceMul, Nat.reduceLeDiff, Nat.reduceLT, reduceCtorEq, ↓reduceIte, Nat.reduceEqDiff, Nat.reduceSub, Nat.reduceMul, Int.reduceNeg, Int.reduceLT, Int.reduceLE, Int.reduceAdd, Int.reduceSub, Int.reduceMul, Int.reduceEq, Int.reduceToNat, Nat.reduceDiv, Nat.reduceMod, Nat.reduceBEq, Nat.reduceBNe, reduceCtorEq, tt_25, tt_23, tt_3, tt_4, tt_5, tt_26, tt_35, tt_36, tt_38, tt_9, tt_64, tt_66, encC, List.cons_append, List.nil_append, cfg0, ib_and, ib_or, ib_xor, ib_andNot, w_ofInt, w_eqb, w_eqb0, w_inj, w_zero, w_wrap, BitVec.reduceOfInt, slC, encLE, encQ, hg, hh]
          refine ⟨j + 1, by omega, by (try simp only); omega, ?_⟩; exact Gn.canon (by first | rfl | (simp [List.append_nil]; rfl)) (by simp [wk, slC]) (by simp [List.length_append]) (by simp [bel_int, bel_bool, bel_str, bel_nilp, bel_nili, bel_nilf, bel_nilm, bel_dead, bel_agg, bel_tup, bel_sl, bel_fp, bel_buf, bel_ptr, bel_mp, bel_ifc, bel_fn, bel_opt, belAll_nil, belAll_cons, belO_cells, belO_dead, belO_unborn, belObs_nil, belObs_cons, belObs_append, belAll_tab, belObs_tab, belObs_tabN, belC, bel_Cs, bel_slC, bel_encLE, bel_encQ, bel_Ns]) (by simp [bel_int, bel_bool, bel_str, bel_nilp, bel_nili, bel_nilf, bel_nilm, bel_dead, bel_agg, bel_tup, bel_sl, bel_fp, bel_buf, bel_ptr, bel_mp, bel_ifc, bel_fn, bel_opt, belAll_nil, belAll_cons, belO_cells, belO_dead, belO_unborn, belObs_nil, belObs_cons, belObs_append, belAll_tab, belObs_tab, belObs_tabN, belC, bel_Cs, bel_slC, bel_encLE, bel_encQ, bel_Ns])
theorem typ_Q {m : Nat} (c : List V) (h : Typ tt (m + 3) 66 c) : ∃ x l, laxs c = encQ x l ∧ 0 ≤ x ∧ x ≤ 255 := by
  have h := typ_struct (by rw [tt_66]) h
  obtain ⟨c1, r1, rfl, h1, h⟩ := typF_cons h
  obtain ⟨c2, r2, rfl, h2, h⟩ := typF_cons h
  obtain rfl := typF_nil h
  obtain ⟨x, rfl, hx1, hx2⟩ := typ_int (by rw [tt_5]) h1
  obtain ⟨l, hl, _⟩ := typ_slice (enc := encN) (by rw [tt_64]) typ_U h2
  refine ⟨x, l, ?_, hx1, hx2⟩
  rw [laxs_append, laxs_append, hl]
  rfl
theorem law12 (xs : List V) (h : TypA tt 8 [36, 36, 66] xs) : PC Try.prog 12 xs (.bool true) := by
  obtain ⟨v, vs, cs, rfl, rfl, h1, h⟩ := typA_cons h
  obtain ⟨v, vs, ds, rfl, rfl, h2, h⟩ := typA_cons h
  obtain ⟨v, vs, es, rfl, rfl, h3, h⟩ := typA_cons h
  obtain rfl := typA_nil h
  obtain ⟨a, ha⟩ := typ_Cs h1
  obtain ⟨b, hb⟩ := typ_Cs h2
  obtain ⟨x, l, hx, hx2⟩ := typ_Q _ h3
  refine PC.lax ?_
  rw [laxs, laxs, laxs, laxs, ha, hb, show mkV (tt 66) es = .agg es by rw [tt_66]; rfl, Go.Vm.lax, hx]
  exact pc12 a b x l hx2
end Go.Proofs.Ytopnabckbpogeaa

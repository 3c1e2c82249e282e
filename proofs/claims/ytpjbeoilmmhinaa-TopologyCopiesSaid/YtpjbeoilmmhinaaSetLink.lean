/-
  Chapter 40: a link set up or down.
-/
import Derived.Test.YtpjbeoilmmhinaaClone
set_option maxRecDepth 100000
set_option linter.all false
namespace Go.Proofs.Ytpjbeoilmmhinaa
open Go.Vm

theorem shs_L {k : Nat} {xs : List Lk} : shs k (xs.flatMap encL) = xs.flatMap encL := shs_bel _ (bel_Ls xs)
theorem shs_P {k : Nat} {xs : List (Int × Int)} : shs k (xs.flatMap encP) = xs.flatMap encP := shs_bel _ (bel_Ps xs)
theorem shs_I {k : Nat} {xs : List Int} : shs k (xs.map (V.int .i64)) = xs.map (V.int .i64) := shs_bel _ (bel_ints xs)
def setDn (t : Tp) (i : Nat) (d : Bool) : Tp := { t with links := t.links.set i { t.links.getD i default with dn := d } }
def setOK (t : Tp) (i : Int) : Prop := 0 ≤ i ∧ i < t.links.length
def nilT : Tp := ⟨[], [], []⟩
theorem put_dn {t : Tp} {i : Nat} {d : Bool} (h : i < t.links.length) : putV (t.links.flatMap encL) (i * 5 + 4) [.bool d] = (setDn t i d).links.flatMap encL := by
  refine put_flat lenL (by simp) t.links i h ?_
  rw [List.getD_eq_getElem?_getD, List.getElem?_eq_getElem h]
  rfl
theorem setDn_fit {t : Tp} {i : Nat} {d : Bool} (h : t.fit) : (setDn t i d).fit := ⟨h.ports, by simpa [setDn] using h.links, h.hosts⟩

theorem pcj23 (t : Tp) (i : Nat) (d : Bool) (hf : t.fit) (hp : t.ports.length ≤ 4000000000) (hi : i < t.links.length) :
    PCJ Try.prog 23 [.agg (encT t), .int .i64 i, .bool d] (.tup [.agg (bufT 4 (setDn t i d)), .int .i64 0]) (.dead :: .dead :: .dead :: .dead :: obsT (setDn t i d)) := by
  have ha2 := hf.links
  have ha3 := hf.hosts
  refine PCJ.walk tok mixed cfg0 Try.func23 rfl Try.call23 (by simp [belAll, V.bel, belObs, Ob.bel, belT, belP, bel_slI, bel_slL, bel_slP, bel_ints, bel_Ps, bel_Ls]) ?_; simp (config := { maxSteps := 2000000 }) -implicitDefEqProofs +contextual (disch := first | assumption | omega | decide +kernel) only [push_cast, ↓capI, br2_true, br2_false, frk_tt, frk_tf, frk_f, frkD_tt, frkD_tf, frkD_f, pk2_true, pk2_false, imp_true, Nat.reduceAdd, Nat.reduceSub, Nat.reduceMul, Nat.reduceLeDiff, Nat.reduceLT, reduceCtorEq, ↓reduceIte, Nat.reduceEqDiff, Nat.reduceSub, Nat.reduceMul, Int.reduceNeg, Int.reduceLT, Int.reduceLE, Int.reduceAdd, Int.reduceSub, Int.reduceMul, Int.reduceEq, Int.reduceToNat, Nat.reduceDiv, Nat.reduceMod, Nat.reduceBEq, Nat.reduceBNe, reduceCtorEq, tt_26, tt_32, tt_22, tt_23, tt_24, tt_3, tt_4, tt_42, tt_29, encT, encP, encL, slI, slP, slL, cfg0, get_flat_part lenP, get_flat_part lenL, get_flat_drop lenL, len_flat lenP, len_flat lenL, eqP, eqL, getI_nat, ones_P, ones_L, ones_I, take_P, take_L, take_I, Try.ntmps23]
  refine callO.pcj (pcj26 t hf hp) ?_
  simp (config := { maxSteps := 2000000 }) -implicitDefEqProofs +contextual (disch := first | assumption | omega | decide +kernel) only [push_cast, ↓capI, br2_true, br2_false, frk_tt, frk_tf, frk_f, frkD_tt, frkD_tf, frkD_f, pk2_true, pk2_false, imp_true, Nat.reduceAdd, Nat.reduceSub, Nat.reduceMul, Nat.reduceLeDiff, Nat.reduceLT, reduceCtorEq, ↓reduceIte, Nat.reduceEqDiff, Nat.reduceSub, Nat.reduceMul, Int.reduceNeg, Int.reduceLT, Int.reduceLE, Int.reduceAdd, Int.reduceSub, Int.reduceMul, Int.reduceEq, Int.reduceToNat, Nat.reduceDiv, Nat.reduceMod, Nat.reduceBEq, Nat.reduceBNe, reduceCtorEq, tt_26, tt_32, tt_22, tt_23, tt_24, tt_3, tt_4, tt_42, tt_29, encT, encP, encL, slI, slP, slL, cfg0, get_flat_part lenP, get_flat_part lenL, get_flat_drop lenL, len_flat lenP, len_flat lenL, eqP, eqL, getI_nat, ones_P, ones_L, ones_I, take_P, take_L, take_I, bufT, obsT, shs_L, shs_P, shs_I]
  refine endJ.gn (Gn.freeze (id := 0) rfl) ?_; refine endJ.gn (Gn.freeze (id := 1) rfl) ?_; refine endJ.gn (Gn.freeze (id := 7) rfl) ?_; refine endJ.ret ([.dead]) (by simp [belAll, V.bel, belObs, Ob.bel, belT, belP, bel_slI, bel_slL, bel_slP, bel_ints, bel_Ps, bel_Ls, fzs_ok, getO, setO, fzs, fz, fzH, Nat.beq, tt_26, tt_32, tt_22, tt_23, tt_24, tt_3, tt_4, tt_42, tt_29, encT, encP, encL, slI, slP, slL, cfg0, get_flat_part lenP, get_flat_part lenL, get_flat_drop lenL, len_flat lenP, len_flat lenL, eqP, eqL, getI_nat, ones_P, ones_L, ones_I, take_P, take_L, take_I, bufT, obsT, put_dn hi, setDn]) (by simp [belAll, V.bel, belObs, Ob.bel, belT, belP, bel_slI, bel_slL, bel_slP, bel_ints, bel_Ps, bel_Ls, fzs_ok, imp, lenOK_iff, List.take_of_length_le, evRes, getT, getO, setO, fzs, fz, fzH, Nat.beq, retV, Res.then, ldT, ldR, mkV, getV, tt_26, tt_32, tt_22, tt_23, tt_24, tt_3, tt_4, tt_42, tt_29, encT, encP, encL, slI, slP, slL, cfg0, get_flat_part lenP, get_flat_part lenL, get_flat_drop lenL, len_flat lenP, len_flat lenL, eqP, eqL, getI_nat, ones_P, ones_L, ones_I, take_P, take_L, take_I, Try.f23, bufT, obsT, put_dn hi, setDn]) (by first | rfl | simp [belAll, V.bel, belObs, Ob.bel, belT, belP, bel_slI, bel_slL, bel_slP, bel_ints, bel_Ps, bel_Ls, bufT, obsT, put_dn hi, setDn]) (by first | rfl | simp [belAll, V.bel, belObs, Ob.bel, belT, belP, bel_slI, bel_slL, bel_slP, bel_ints, bel_Ps, bel_Ls, bufT, obsT, put_dn hi, setDn])
end Go.Proofs.Ytpjbeoilmmhinaa

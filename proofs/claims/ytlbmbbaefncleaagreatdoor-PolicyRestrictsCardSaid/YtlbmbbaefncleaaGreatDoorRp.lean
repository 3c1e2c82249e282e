/-
  Chapter 45: lists of nodes of predicates, joined.
-/
import Derived.Test.YtlbmbbaefncleaaGreatDoorOvr
set_option maxRecDepth 100000
set_option maxHeartbeats 4000000
set_option linter.all false
namespace Go.Proofs.YtlbmbbaefncleaaGreatDoor
open Go.Vm
@[simp] theorem bel_partsP {n : Nat} (ls : List (List Pd.Nd)) : belAll n (ls.map Pd.slN) = true := belAll_map (fun l => Pd.bel_slN l) ls
attribute [local push_cast] Pd.slN Pd.encN cfg0 Nat.mul_one
theorem pcj151 (n : Nat) (hn : n ≤ 1000000) : PCJ Tryz.prog 151 [.sl true [] 0, .int .i64 n] (.buf 0 0 0 0 4) [.cells 0 []] := by
 cases n with
 | zero =>
  refine PCJ.walk tok mixed cfg0 Tryz.func151 rfl Tryz.call151 (by simp [Pd.belN, Pd.bel_Ns, Pd.bel_slN]) ?_; refine vms4 (get_flat_part Pd.lenN) (get_flat_drop Pd.lenN) (len_flat Pd.lenN) Tryz.ntmps151 ?_
  refine endJ.gn (Gn.ownNil (t := 4) (sz := 4) rfl) ?_
  refine endJ.ret ([]) (by simp [Pd.belN, Pd.bel_Ns, Pd.bel_slN, fzs_ok, getO, setO, fzs, fz, fzH, Nat.beq, tt_3, tt_4, tt_5, tt_9, tt_22, tt_54, tt_58, tt_60, tt_104, tt_176, Pd.slN, Pd.encN, cfg0, get_flat_part Pd.lenN, get_flat_drop Pd.lenN, len_flat Pd.lenN, Nat.mul_one, putT]) (by simp [Pd.belN, Pd.bel_Ns, Pd.bel_slN, fzs_ok, imp, lenOK_iff, List.take_of_length_le, evRes, getT, getO, setO, fzs, fz, fzH, Nat.beq, retV, Res.then, ldT, ldR, mkV, getV, tt_3, tt_4, tt_5, tt_9, tt_22, tt_54, tt_58, tt_60, tt_104, tt_176, Pd.slN, Pd.encN, cfg0, get_flat_part Pd.lenN, get_flat_drop Pd.lenN, len_flat Pd.lenN, Nat.mul_one, Tryz.f151, putT]) (by first | rfl | simp [Pd.belN, Pd.bel_Ns, Pd.bel_slN, putT]) (by first | rfl | simp [Pd.belN, Pd.bel_Ns, Pd.bel_slN, putT])
 | succ n =>
  refine PCJ.walk tok mixed cfg0 Tryz.func151 rfl Tryz.call151 (by simp [Pd.belN, Pd.bel_Ns, Pd.bel_slN]) ?_; refine vms4 (get_flat_part Pd.lenN) (get_flat_drop Pd.lenN) (len_flat Pd.lenN) Tryz.ntmps151 ?_
  refine endJ.ret ([]) (by simp [Pd.belN, Pd.bel_Ns, Pd.bel_slN, fzs_ok, getO, setO, fzs, fz, fzH, Nat.beq, tt_3, tt_4, tt_5, tt_9, tt_22, tt_54, tt_58, tt_60, tt_104, tt_176, Pd.slN, Pd.encN, cfg0, get_flat_part Pd.lenN, get_flat_drop Pd.lenN, len_flat Pd.lenN, Nat.mul_one]) (by simp [Pd.belN, Pd.bel_Ns, Pd.bel_slN, fzs_ok, imp, lenOK_iff, List.take_of_length_le, evRes, getT, getO, setO, fzs, fz, fzH, Nat.beq, retV, Res.then, ldT, ldR, mkV, getV, tt_3, tt_4, tt_5, tt_9, tt_22, tt_54, tt_58, tt_60, tt_104, tt_176, Pd.slN, Pd.encN, cfg0, get_flat_part Pd.lenN, get_flat_drop Pd.lenN, len_flat Pd.lenN, Nat.mul_one, Tryz.f151]) (by first | rfl | simp [Pd.belN, Pd.bel_Ns, Pd.bel_slN]) (by first | rfl | simp [Pd.belN, Pd.bel_Ns, Pd.bel_slN])
def sumRP (ls : List (List Pd.Nd)) : Nat := (ls.map List.length).sum
theorem sum0P : sumRP [] = 0 := rfl
theorem drop_mapP {ls : List (List Pd.Nd)} {i : Nat} (h : i < ls.length) : (ls.map Pd.slN).drop i = .sl false (ls[i].flatMap Pd.encN) ls[i].length :: (ls.map Pd.slN).drop (i + 1) := by
 rw [List.drop_eq_getElem_cons (by simpa using h), List.getElem_map]; rfl
theorem sum_takeP {ls : List (List Pd.Nd)} {i : Nat} (h : i < ls.length) : sumRP (ls.take (i + 1)) = sumRP (ls.take i) + ls[i].length := by
 rw [sumRP, List.take_succ_eq_append_getElem h, List.map_append, List.sum_append]
 simp [sumRP]
theorem sum_leP {ls : List (List Pd.Nd)} {i : Nat} : sumRP (ls.take i) ≤ sumRP ls := by
 conv => rhs; rw [← List.take_append_drop i ls]
 rw [sumRP, sumRP, List.map_append, List.sum_append]
 exact Nat.le_add_right _ _
theorem flat_takeP {ls : List (List Pd.Nd)} {i : Nat} (h : i < ls.length) : (ls.take (i + 1)).flatten = (ls.take i).flatten ++ ls[i] := by
 rw [List.take_succ_eq_append_getElem h, List.flatten_append]
 simp
theorem len_flattenP (ls : List (List Pd.Nd)) : ls.flatten.length = sumRP ls := by
 rw [List.length_flatten]; rfl
theorem pc108 (ls : List (List Pd.Nd)) (hl : ls.length ≤ 100) (hs : sumRP ls ≤ 100000) : PC Tryz.prog 108 [.sl false (ls.map Pd.slN) ls.length] (Pd.slN ls.flatten) := by
 refine PC.walk tok mixed cfg0 Tryz.func108 rfl Tryz.call108 (by simp [Pd.belN, Pd.bel_Ns, Pd.bel_slN]) (by first | rfl | simp [Pd.belN, Pd.bel_Ns, Pd.bel_slN]) ?_; refine vms4 (get_flat_part Pd.lenN) (get_flat_drop Pd.lenN) (len_flat Pd.lenN) Tryz.ntmps108 ?_
 refine T.lp tok mixed cfg0 (fun (i : Nat) => kp 1 (dd 2 (sv (.int .i64 (sumRP (ls.take i))) (dd 5 (kp 2 (sv (.int .i64 i) (dd 24 (nl)))))))) (fun H0 (i : Nat) => []) (fun (i : Nat) => i ≤ ls.length) (fun (i : Nat) => ls.length - i) (0) ?_ ?_ ?_
 ·exact Nat.zero_le _
 ·exact Gn.canon (J := []) (by first | rfl | (simp [List.append_nil]; done) | (simp [List.append_nil]; rfl)) (by simp [wk, Pd.slN, sum0P, putT, kp, dd, sv, nl]) (by simp [List.length_append]) (by simp [Pd.belN, Pd.bel_Ns, Pd.bel_slN, kp, dd, sv, nl]) (by simp [Pd.belN, Pd.bel_Ns, Pd.bel_slN])
 rintro i hi
 have hsm := sum_leP (ls := ls) (i := i)
 by_cases hlt : i < ls.length
 ·have e := sum_takeP hlt
  have hsm2 := sum_leP (ls := ls) (i := i + 1)
  have hg := drop_mapP hlt
  simp (maxSteps := 2000000) -implicitDefEqProofs +contextual (disch := first | assumption | omega | decide +kernel) only [push_cast, ↓capI, seval, Nat.reduceLeDiff, Nat.reduceEqDiff, reduceCtorEq, ↓reduceIte, get_flat_part Pd.lenN, get_flat_drop Pd.lenN, len_flat Pd.lenN, hlt, e, hg, getV1]
  refine ⟨i + 1, hlt, by (try simp only); omega, ?_⟩; exact Gn.canon (by first | rfl | (simp [List.append_nil, e]; rfl)) (by simp [wk, Pd.slN, sum0P, e]) (by simp [List.length_append]) (by simp [Pd.belN, Pd.bel_Ns, Pd.bel_slN]) (by simp [Pd.belN, Pd.bel_Ns, Pd.bel_slN])
 have hi' : i = ls.length := by omega
 subst hi'
 rw [List.take_length]
 refine vms3 (get_flat_part Pd.lenN) (get_flat_drop Pd.lenN) (len_flat Pd.lenN) ?_
 refine callO.lent (by exact pcj151 (sumRP ls) (by omega)) rfl rfl rfl ?_
 simp (maxSteps := 2000000) -implicitDefEqProofs +contextual (disch := first | assumption | omega | decide +kernel) only [push_cast, ↓capI, seval, Nat.reduceLeDiff, Nat.reduceEqDiff, reduceCtorEq, ↓reduceIte, get_flat_part Pd.lenN, get_flat_drop Pd.lenN, len_flat Pd.lenN, V.sh, shs, shOs, Ob.sh]
 refine T.lp tok mixed cfg0 (fun (i : Nat) => dd 6 (sv (.buf 0 i 0 (ls.take i).flatten.length 4) (dd 18 (kp 2 (sv (.int .i64 i) (dd 8 (nl))))))) (fun H0 (i : Nat) => [.cells i ((ls.take i).flatten.flatMap Pd.encN)]) (fun (i : Nat) => i ≤ ls.length) (fun (i : Nat) => ls.length - i) (0) ?_ ?_ ?_
 ·exact Nat.zero_le _
 ·exact Gn.canon (J := []) (by first | rfl | (simp [List.append_nil]; done) | (simp [List.append_nil]; rfl)) (by simp [wk, Pd.slN, sum0P, putT, kp, dd, sv, nl]) (by simp [List.length_append]) (by simp [Pd.belN, Pd.bel_Ns, Pd.bel_slN, kp, dd, sv, nl]) (by simp [Pd.belN, Pd.bel_Ns, Pd.bel_slN])
 rintro i hi
 have hsm := sum_leP (ls := ls) (i := i)
 have hL := len_flattenP (ls.take i)
 by_cases hlt : i < ls.length
 ·have hg := drop_mapP hlt
  have hsm2 := sum_leP (ls := ls) (i := i + 1)
  have e := sum_takeP hlt
  have hr : ls[i].length ≤ 100000 := by omega
  have hL2 : (ls.take i).flatten.length + ls[i].length ≤ 100000 := by omega
  simp (maxSteps := 2000000) -implicitDefEqProofs +contextual (disch := first | assumption | omega | decide +kernel) only [push_cast, ↓capI, seval, Nat.reduceLeDiff, Nat.reduceEqDiff, reduceCtorEq, ↓reduceIte, get_flat_part Pd.lenN, get_flat_drop Pd.lenN, len_flat Pd.lenN, hlt, hg, getV1, ones_Pd, take_Pd, hr]
  refine ⟨i + 1, hlt, by (try simp only); omega, ?_⟩; exact Gn.canon (by first | rfl | (simp [List.append_nil, flat_takeP hlt, List.flatMap_append]; rfl)) (by simp [wk, Pd.slN, sum0P, flat_takeP hlt, List.flatMap_append]) (by simp [List.length_append]) (by simp [Pd.belN, Pd.bel_Ns, Pd.bel_slN]) (by simp [Pd.belN, Pd.bel_Ns, Pd.bel_slN])
 have hi' : i = ls.length := by omega
 subst hi'
 rw [List.take_length] at hL ⊢
 refine vms3 (get_flat_part Pd.lenN) (get_flat_drop Pd.lenN) (len_flat Pd.lenN) ?_
 refine endK.gn (Gn.freeze (id := 0) rfl) ?_; refine endK.ret ?_ (by first | rfl | simp [Pd.belN, Pd.bel_Ns, Pd.bel_slN]); simp [Pd.belN, Pd.bel_Ns, Pd.bel_slN, fzs_ok, imp, lenOK_iff, List.take_of_length_le, evRes, getT, getO, setO, fzs, fz, fzH, Nat.beq, retV, Res.then, ldT, ldR, mkV, getV, tt_3, tt_4, tt_5, tt_9, tt_22, tt_54, tt_58, tt_60, tt_104, tt_176, Pd.slN, Pd.encN, cfg0, get_flat_part Pd.lenN, get_flat_drop Pd.lenN, len_flat Pd.lenN, Nat.mul_one, Tryz.f108,  take_Pd]
theorem pc65 (ls : List (List Pd.Nd)) (hl : ls.length ≤ 100) (hs : sumRP ls ≤ 100000) : PC Tryz.prog 65 [.sl false (ls.map Pd.slN) ls.length] (Pd.slN ls.flatten) := by
 refine PC.walk tok mixed cfg0 Tryz.func65 rfl Tryz.call65 (by simp [Pd.belN, Pd.bel_Ns, Pd.bel_slN]) (by first | rfl | simp [Pd.belN, Pd.bel_Ns, Pd.bel_slN]) ?_; refine vms4 (get_flat_part Pd.lenN) (get_flat_drop Pd.lenN) (len_flat Pd.lenN) Tryz.ntmps65 ?_
 refine callO.pc (pc108 ls hl hs) ?_
 refine vms3 (get_flat_part Pd.lenN) (get_flat_drop Pd.lenN) (len_flat Pd.lenN) ?_
 refine endK.ret ?_ (by first | rfl | simp [Pd.belN, Pd.bel_Ns, Pd.bel_slN]); simp [evRes, getT, retV, Tryz.f65]
end Go.Proofs.YtlbmbbaefncleaaGreatDoor

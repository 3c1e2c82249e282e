/-
  Chapter 45: rules, lists of rules, and what is joined of them.
-/
import Derived.Test.YtlbmbbaefncleaaGreatDoorPdNode
import Derived.Test.YtlbmbbaefncleaaGreatDoorPxNod
import Derived.Test.YtlbmbbaefncleaaGreatDoorVm12
set_option maxRecDepth 100000
set_option maxHeartbeats 4000000
set_option linter.all false
namespace Go.Proofs.YtlbmbbaefncleaaGreatDoor
open Go.Vm
structure Ru where
 f : Int
 t : Int
 p : List Pd.Nd
 q : List Px.Nd
instance : Inhabited Ru := ⟨⟨0, 0, [], []⟩⟩
def encR (r : Ru) : List V := [.int .i64 r.f, .int .i64 r.t, Pd.slN r.p, Px.slN r.q]
def slR (l : List Ru) : V := .sl false (l.flatMap encR) l.length
theorem lenR (r : Ru) : (encR r).length = 4 := rfl
theorem gfp_lenR (xs : List (Ru)) (i : Nat) (h : i < xs.length) (m : Nat) (hm : m ≤ 4) : getV ((xs.flatMap encR).drop (i * 4)) 0 m = getV (encR xs[i]) 0 m := get_flat_part lenR xs i h m hm
theorem gfd_lenR (xs : List (Ru)) (i : Nat) (h : i < xs.length) (o m : Nat) (hm : o + m ≤ 4) : getV (((xs.flatMap encR).drop (i * 4)).drop o) 0 m = getV (encR xs[i]) o m := get_flat_drop lenR xs i h o m hm
theorem lfl_lenR (xs : List (Ru)) : (xs.flatMap encR).length = xs.length * 4 := len_flat lenR xs
@[simp] theorem belR {n : Nat} (r : Ru) : belAll n (encR r) = true := by simp [encR, Pd.bel_slN, Px.bel_slN]
@[simp] theorem bel_Rs {n : Nat} (l : List Ru) : belAll n (l.flatMap encR) = true := belAll_flat belR l
@[simp] theorem bel_slR {n : Nat} (l : List Ru) : (slR l).bel n = true := by unfold slR; rw [bel_sl]; exact bel_Rs l
theorem ones_R {g : Bool} {p : Prop} : ∀ {l : List Ru}, ones g (l.flatMap encR) p = p
 | [] => rfl
 | x :: l => by
  simp only [List.flatMap_cons, encR, List.cons_append, List.nil_append, ones, V.one, Pd.slN, Px.slN]
  exact ones_R
theorem take_R {l : List Ru} : (l.flatMap encR).take (l.length * 4) = l.flatMap encR := by
 rw [List.take_of_length_le (by rw [len_flat lenR]; exact Nat.le_refl _)]
@[simp] theorem bel_parts {n : Nat} (ls : List (List Ru)) : belAll n (ls.map slR) = true := belAll_map (fun l => bel_slR l) ls
attribute [local push_cast] encR slR cfg0 gfp_lenR gfd_lenR lfl_lenR Nat.mul_one
theorem pcj150 (n : Nat) (hn : n ≤ 1000000) : PCJ Tryz.prog 150 [.sl true [] 0, .int .i64 n] (.buf 0 0 0 0 4) [.cells 0 []] := by
 cases n with
 | zero =>
  refine PCJ.walk tok mixed cfg0 Tryz.func150 rfl Tryz.call150 (by simp) ?_; refine vms1 Tryz.ntmps150 ?_
  refine endJ.gn (Gn.ownNil (t := 4) (sz := 4) rfl) ?_
  refine endJ.ret ([]) (by simp [fzs_ok, getO, setO, fzs, fz, fzH, Nat.beq, tt_3, tt_4, tt_9, tt_22, tt_54, tt_58, tt_60, tt_174, encR, slR, cfg0, get_flat_part lenR, get_flat_drop lenR, len_flat lenR, Nat.mul_one, putT]) (by simp [fzs_ok, imp, lenOK_iff, List.take_of_length_le, evRes, getT, getO, setO, fzs, fz, fzH, Nat.beq, retV, Res.then, ldT, ldR, mkV, getV, tt_3, tt_4, tt_9, tt_22, tt_54, tt_58, tt_60, tt_174, encR, slR, cfg0, get_flat_part lenR, get_flat_drop lenR, len_flat lenR, Nat.mul_one, Tryz.f150, putT]) (by first | rfl | simp [putT]) (by first | rfl | simp [putT])
 | succ n =>
  refine PCJ.walk tok mixed cfg0 Tryz.func150 rfl Tryz.call150 (by simp) ?_; refine vms1 Tryz.ntmps150 ?_
  refine endJ.ret ([]) (by simp [fzs_ok, getO, setO, fzs, fz, fzH, Nat.beq, tt_3, tt_4, tt_9, tt_22, tt_54, tt_58, tt_60, tt_174, encR, slR, cfg0, get_flat_part lenR, get_flat_drop lenR, len_flat lenR, Nat.mul_one]) (by simp [fzs_ok, imp, lenOK_iff, List.take_of_length_le, evRes, getT, getO, setO, fzs, fz, fzH, Nat.beq, retV, Res.then, ldT, ldR, mkV, getV, tt_3, tt_4, tt_9, tt_22, tt_54, tt_58, tt_60, tt_174, encR, slR, cfg0, get_flat_part lenR, get_flat_drop lenR, len_flat lenR, Nat.mul_one, Tryz.f150]) (by first | rfl | simp) (by first | rfl | simp)
def sumR (ls : List (List Ru)) : Nat := (ls.map List.length).sum
theorem sum0 : sumR [] = 0 := rfl
theorem getV1 {x : V} {l : List V} : getV (x :: l) 0 1 = [x] := rfl
theorem drop_map {ls : List (List Ru)} {i : Nat} (h : i < ls.length) : (ls.map slR).drop i = .sl false (ls[i].flatMap encR) ls[i].length :: (ls.map slR).drop (i + 1) := by
 rw [List.drop_eq_getElem_cons (by simpa using h), List.getElem_map]; rfl
theorem sum_take {ls : List (List Ru)} {i : Nat} (h : i < ls.length) : sumR (ls.take (i + 1)) = sumR (ls.take i) + ls[i].length := by
 rw [sumR, List.take_succ_eq_append_getElem h, List.map_append, List.sum_append]
 simp [sumR]
theorem sum_le {ls : List (List Ru)} {i : Nat} : sumR (ls.take i) ≤ sumR ls := by
 conv => rhs; rw [← List.take_append_drop i ls]
 rw [sumR, sumR, List.map_append, List.sum_append]
 exact Nat.le_add_right _ _
theorem flat_take {ls : List (List Ru)} {i : Nat} (h : i < ls.length) : (ls.take (i + 1)).flatten = (ls.take i).flatten ++ ls[i] := by
 rw [List.take_succ_eq_append_getElem h, List.flatten_append]
 simp
theorem len_flatten (ls : List (List Ru)) : ls.flatten.length = sumR ls := by
 rw [List.length_flatten]; rfl
theorem pc105 (ls : List (List Ru)) (hl : ls.length ≤ 100) (hs : sumR ls ≤ 100000) : PC Tryz.prog 105 [.sl false (ls.map slR) ls.length] (slR ls.flatten) := by
 refine PC.walk tok mixed cfg0 Tryz.func105 rfl Tryz.call105 (by simp) (by first | rfl | simp) ?_; refine vms1 Tryz.ntmps105 ?_
 refine T.lp tok mixed cfg0 (fun (i : Nat) => kp 1 (dd 2 (sv (.int .i64 (sumR (ls.take i))) (dd 5 (kp 2 (sv (.int .i64 i) (dd 24 (nl)))))))) (fun H0 (i : Nat) => []) (fun (i : Nat) => i ≤ ls.length) (fun (i : Nat) => ls.length - i) (0) ?_ ?_ ?_
 ·exact Nat.zero_le _
 ·exact Gn.canon (J := []) (by first | rfl | (simp [List.append_nil]; done) | (simp [List.append_nil]; rfl)) (by simp [wk, slR, sum0, putT, kp, dd, sv, nl]) (by simp [List.length_append]) (by simp [kp, dd, sv, nl]) (by simp)
 rintro i hi
 have hsm := sum_le (ls := ls) (i := i)
 by_cases hlt : i < ls.length
 ·have e := sum_take hlt
  have hsm2 := sum_le (ls := ls) (i := i + 1)
  have hg := drop_map hlt
  simp (maxSteps := 2000000) -implicitDefEqProofs +contextual (disch := first | assumption | omega | decide +kernel) only [push_cast, ↓capI, seval, Nat.reduceLeDiff, Nat.reduceEqDiff, reduceCtorEq, ↓reduceIte, hlt, e, hg, getV1]
  refine ⟨i + 1, hlt, by (try simp only); omega, ?_⟩; exact Gn.canon (by first | rfl | (simp [List.append_nil, e]; rfl)) (by simp [wk, slR, sum0, e]) (by simp [List.length_append]) (by simp) (by simp)
 have hi' : i = ls.length := by omega
 subst hi'
 rw [List.take_length]
 refine vms0 ?_
 refine callO.lent (by exact pcj150 (sumR ls) (by omega)) rfl rfl rfl ?_
 simp (maxSteps := 2000000) -implicitDefEqProofs +contextual (disch := first | assumption | omega | decide +kernel) only [push_cast, ↓capI, seval, Nat.reduceLeDiff, Nat.reduceEqDiff, reduceCtorEq, ↓reduceIte, V.sh, shs, shOs, Ob.sh]
 refine T.lp tok mixed cfg0 (fun (i : Nat) => dd 6 (sv (.buf 0 i 0 (ls.take i).flatten.length 4) (dd 18 (kp 2 (sv (.int .i64 i) (dd 8 (nl))))))) (fun H0 (i : Nat) => [.cells i ((ls.take i).flatten.flatMap encR)]) (fun (i : Nat) => i ≤ ls.length) (fun (i : Nat) => ls.length - i) (0) ?_ ?_ ?_
 ·exact Nat.zero_le _
 ·exact Gn.canon (J := []) (by first | rfl | (simp [List.append_nil]; done) | (simp [List.append_nil]; rfl)) (by simp [wk, slR, sum0, putT, kp, dd, sv, nl]) (by simp [List.length_append]) (by simp [kp, dd, sv, nl]) (by simp)
 rintro i hi
 have hsm := sum_le (ls := ls) (i := i)
 have hL := len_flatten (ls.take i)
 by_cases hlt : i < ls.length
 ·have hg := drop_map hlt
  have hsm2 := sum_le (ls := ls) (i := i + 1)
  have e := sum_take hlt
  have hr : ls[i].length ≤ 100000 := by omega
  have hL2 : (ls.take i).flatten.length + ls[i].length ≤ 100000 := by omega
  simp (maxSteps := 2000000) -implicitDefEqProofs +contextual (disch := first | assumption | omega | decide +kernel) only [push_cast, ↓capI, seval, Nat.reduceLeDiff, Nat.reduceEqDiff, reduceCtorEq, ↓reduceIte, hlt, hg, getV1, ones_R, take_R, hr]
  refine ⟨i + 1, hlt, by (try simp only); omega, ?_⟩; exact Gn.canon (by first | rfl | (simp [List.append_nil, flat_take hlt, List.flatMap_append]; rfl)) (by simp [wk, slR, sum0, flat_take hlt, List.flatMap_append]) (by simp [List.length_append]) (by simp) (by simp)
 have hi' : i = ls.length := by omega
 subst hi'
 rw [List.take_length] at hL ⊢
 refine vms0 ?_
 refine endK.gn (Gn.freeze (id := 0) rfl) ?_; refine endK.retA ?_; simp [fzs_ok, imp, lenOK_iff, List.take_of_length_le, evRes, getT, getO, setO, fzs, fz, fzH, Nat.beq, retV, Res.then, ldT, ldR, mkV, getV, tt_3, tt_4, tt_9, tt_22, tt_54, tt_58, tt_60, tt_174, encR, slR, cfg0, get_flat_part lenR, get_flat_drop lenR, len_flat lenR, Nat.mul_one, Tryz.f105,  take_R]
end Go.Proofs.YtlbmbbaefncleaaGreatDoor

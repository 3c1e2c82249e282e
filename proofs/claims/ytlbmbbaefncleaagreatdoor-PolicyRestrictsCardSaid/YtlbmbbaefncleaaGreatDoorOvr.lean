/-
  Chapter 45: Override of the program and of the reference; copies of rules.
-/
import Derived.Test.YtlbmbbaefncleaaGreatDoorRu
import Derived.Test.YtlbmbbaefncleaaGreatDoorCln
set_option maxRecDepth 100000
set_option maxHeartbeats 4000000
set_option linter.all false
namespace Go.Proofs.YtlbmbbaefncleaaGreatDoor
open Go.Vm
attribute [local push_cast] encR slR cfg0 gfp_lenR gfd_lenR lfl_lenR Nat.mul_one Pd.slN Px.slN
theorem pc63 (ls : List (List Ru)) (hl : ls.length ≤ 100) (hs : sumR ls ≤ 100000) : PC Tryz.prog 63 [.sl false (ls.map slR) ls.length] (slR ls.flatten) := by
 refine PC.walk tok mixed cfg0 Tryz.func63 rfl Tryz.call63 (by simp [Pd.bel_slN, Px.bel_slN, Pd.bel_Ns, Px.bel_Ns, belAll_append]) (by first | rfl | simp [Pd.bel_slN, Px.bel_slN, Pd.bel_Ns, Px.bel_Ns, belAll_append]) ?_; refine vms1 Tryz.ntmps63 ?_
 refine callO.pc (pc105 ls hl hs) ?_
 refine vms0 ?_
 refine endK.ret ?_ (by first | rfl | simp [Pd.bel_slN, Px.bel_slN, Pd.bel_Ns, Px.bel_Ns, belAll_append]); simp [evRes, getT, retV, Tryz.f63]
theorem take_R2 {a b : List Ru} : (a.flatMap encR ++ b.flatMap encR).take ((a.length + b.length) * 4) = a.flatMap encR ++ b.flatMap encR := by
 have := take_R (l := a ++ b)
 rwa [List.length_append, List.flatMap_append] at this
theorem pc25 (a b : List Ru) (ha : a.length ≤ 100000) (hb : b.length ≤ 100000) : PC Tryz.prog 25 [slR a, slR b] (slR (a ++ b)) := by
 have h0 : a.length + b.length ≤ 200000 := by omega
 refine PC.walk tok mixed cfg0 Tryz.func25 rfl Tryz.call25 (by simp [Pd.bel_slN, Px.bel_slN, Pd.bel_Ns, Px.bel_Ns, belAll_append]) (by first | rfl | simp [Pd.bel_slN, Px.bel_slN, Pd.bel_Ns, Px.bel_Ns, belAll_append]) ?_; refine vms1 Tryz.ntmps25 ?_
 simp (maxSteps := 2000000) -implicitDefEqProofs +contextual (disch := first | assumption | omega | decide +kernel) only [push_cast, ↓capI, seval, Nat.reduceLeDiff, Nat.reduceEqDiff, reduceCtorEq, ↓reduceIte, ones_R, take_R]
 refine endK.gn (Gn.freeze (id := 0) rfl) ?_; refine endK.ret ?_ (by first | rfl | simp [Pd.bel_slN, Px.bel_slN, Pd.bel_Ns, Px.bel_Ns, belAll_append]); simp [Pd.bel_slN, Px.bel_slN, Pd.bel_Ns, Px.bel_Ns, belAll_append, fzs_ok, imp, lenOK_iff, List.take_of_length_le, evRes, getT, getO, setO, fzs, fz, fzH, Nat.beq, retV, Res.then, ldT, ldR, mkV, getV, tt_3, tt_4, tt_9, tt_22, tt_54, tt_58, tt_60, tt_174, encR, slR, cfg0, get_flat_part lenR, get_flat_drop lenR, len_flat lenR, Nat.mul_one, Pd.slN, Px.slN, Tryz.f25,  List.flatMap_append, take_R]
 exact take_R2
def cfgC : Cfg := { lv := [5], ef := [], ord := [], em := [] }
theorem ones_Pd {g : Bool} {p : Prop} : ∀ {l : List Pd.Nd}, ones g (l.flatMap Pd.encN) p = p
 | [] => rfl
 | x :: l => by
  simp only [List.flatMap_cons, Pd.encN, List.cons_append, List.nil_append, ones, V.one]
  exact ones_Pd
theorem ones_Px {g : Bool} {p : Prop} : ∀ {l : List Px.Nd}, ones g (l.flatMap Px.encN) p = p
 | [] => rfl
 | x :: l => by
  simp only [List.flatMap_cons, Px.encN, List.cons_append, List.nil_append, ones, V.one]
  exact ones_Px
theorem take_Pd {l : List Pd.Nd} : (l.flatMap Pd.encN).take (l.length * 4) = l.flatMap Pd.encN := by
 rw [List.take_of_length_le (by rw [len_flat Pd.lenN]; exact Nat.le_refl _)]
theorem take_Px {l : List Px.Nd} : (l.flatMap Px.encN).take (l.length * 2) = l.flatMap Px.encN := by
 rw [List.take_of_length_le (by rw [len_flat Px.lenN]; exact Nat.le_refl _)]
theorem pc106 (l : List Pd.Nd) (hl : l.length ≤ 100000) : PC Tryz.prog 106 [Pd.slN l] (Pd.slN l) := by
 by_cases h : l.length = 0
 ·obtain rfl := List.length_eq_zero_iff.1 h
  exact pc106z
 ·rw [Pd.slN]
  refine PC.walk tok mixed  cfgC Tryz.func106 rfl Tryz.call106 (by simp [Pd.bel_slN, Px.bel_slN, Pd.bel_Ns, Px.bel_Ns, belAll_append]) (by first | rfl | simp [Pd.bel_slN, Px.bel_slN, Pd.bel_Ns, Px.bel_Ns, belAll_append]) ?_; simp (maxSteps := 2000000) -implicitDefEqProofs +contextual (disch := first | assumption | omega | decide +kernel) only [push_cast, ↓capI, seval, Nat.reduceLeDiff, Nat.reduceEqDiff, reduceCtorEq, ↓reduceIte, Tryz.ntmps106, cfgC]
  simp (maxSteps := 2000000) -implicitDefEqProofs +contextual (disch := first | assumption | omega | decide +kernel) only [push_cast, ↓capI, seval, Nat.reduceLeDiff, Nat.reduceEqDiff, reduceCtorEq, ↓reduceIte, h, cfgC, ones_Pd, take_Pd, len_flat Pd.lenN]
  refine endK.gn (Gn.freeze (id := 0) rfl) ?_; refine endK.ret ?_ (by first | rfl | simp [Pd.bel_slN, Px.bel_slN, Pd.bel_Ns, Px.bel_Ns, belAll_append]); simp [Pd.bel_slN, Px.bel_slN, Pd.bel_Ns, Px.bel_Ns, belAll_append, fzs_ok, imp, lenOK_iff, List.take_of_length_le, evRes, getT, getO, setO, fzs, fz, fzH, Nat.beq, retV, Res.then, ldT, ldR, mkV, getV, tt_3, tt_4, tt_9, tt_22, tt_54, tt_58, tt_60, tt_174, encR, slR, cfg0, get_flat_part lenR, get_flat_drop lenR, len_flat lenR, Nat.mul_one, Pd.slN, Px.slN, Tryz.f106,  take_Pd]
theorem pc107 (l : List Px.Nd) (hl : l.length ≤ 100000) : PC Tryz.prog 107 [Px.slN l] (Px.slN l) := by
 by_cases h : l.length = 0
 ·obtain rfl := List.length_eq_zero_iff.1 h
  exact pc107z
 ·rw [Px.slN]
  refine PC.walk tok mixed  cfgC Tryz.func107 rfl Tryz.call107 (by simp [Pd.bel_slN, Px.bel_slN, Pd.bel_Ns, Px.bel_Ns, belAll_append]) (by first | rfl | simp [Pd.bel_slN, Px.bel_slN, Pd.bel_Ns, Px.bel_Ns, belAll_append]) ?_; simp (maxSteps := 2000000) -implicitDefEqProofs +contextual (disch := first | assumption | omega | decide +kernel) only [push_cast, ↓capI, seval, Nat.reduceLeDiff, Nat.reduceEqDiff, reduceCtorEq, ↓reduceIte, Tryz.ntmps107, cfgC]
  simp (maxSteps := 2000000) -implicitDefEqProofs +contextual (disch := first | assumption | omega | decide +kernel) only [push_cast, ↓capI, seval, Nat.reduceLeDiff, Nat.reduceEqDiff, reduceCtorEq, ↓reduceIte, h, cfgC, ones_Px, take_Px, len_flat Px.lenN]
  refine endK.gn (Gn.freeze (id := 0) rfl) ?_; refine endK.ret ?_ (by first | rfl | simp [Pd.bel_slN, Px.bel_slN, Pd.bel_Ns, Px.bel_Ns, belAll_append]); simp [Pd.bel_slN, Px.bel_slN, Pd.bel_Ns, Px.bel_Ns, belAll_append, fzs_ok, imp, lenOK_iff, List.take_of_length_le, evRes, getT, getO, setO, fzs, fz, fzH, Nat.beq, retV, Res.then, ldT, ldR, mkV, getV, tt_3, tt_4, tt_9, tt_22, tt_54, tt_58, tt_60, tt_174, encR, slR, cfg0, get_flat_part lenR, get_flat_drop lenR, len_flat lenR, Nat.mul_one, Pd.slN, Px.slN, Tryz.f107,  take_Px]
theorem pc64 (r : Ru) (hp : r.p.length ≤ 100000) (hq : r.q.length ≤ 100000) : PC Tryz.prog 64 [.agg (encR r)] (.agg (encR r)) := by
 refine PC.walk tok mixed cfg0 Tryz.func64 rfl Tryz.call64 (by simp [Pd.bel_slN, Px.bel_slN, Pd.bel_Ns, Px.bel_Ns, belAll_append]) (by first | rfl | simp [Pd.bel_slN, Px.bel_slN, Pd.bel_Ns, Px.bel_Ns, belAll_append]) ?_; refine vms1 Tryz.ntmps64 ?_
 refine callO.pc (pc106 r.p hp) ?_
 simp (maxSteps := 2000000) -implicitDefEqProofs +contextual (disch := first | assumption | omega | decide +kernel) only [push_cast, ↓capI, seval, Nat.reduceLeDiff, Nat.reduceEqDiff, reduceCtorEq, ↓reduceIte, Pd.slN, Px.slN]
 refine callO.pc (pc107 r.q hq) ?_
 simp (maxSteps := 2000000) -implicitDefEqProofs +contextual (disch := first | assumption | omega | decide +kernel) only [push_cast, ↓capI, seval, Nat.reduceLeDiff, Nat.reduceEqDiff, reduceCtorEq, ↓reduceIte, Pd.slN, Px.slN]
 refine endK.ret ?_ (by first | rfl | simp [Pd.bel_slN, Px.bel_slN, Pd.bel_Ns, Px.bel_Ns, belAll_append]); simp [Pd.bel_slN, Px.bel_slN, Pd.bel_Ns, Px.bel_Ns, belAll_append, fzs_ok, imp, lenOK_iff, List.take_of_length_le, evRes, getT, getO, setO, fzs, fz, fzH, Nat.beq, retV, Res.then, ldT, ldR, mkV, getV, tt_3, tt_4, tt_9, tt_22, tt_54, tt_58, tt_60, tt_174, encR, slR, cfg0, get_flat_part lenR, get_flat_drop lenR, len_flat lenR, Nat.mul_one, Pd.slN, Px.slN, Tryz.f64,  Pd.slN, Px.slN]
def smR (l : List Ru) : Prop := ∀ r ∈ l, r.p.length ≤ 100000 ∧ r.q.length ≤ 100000
theorem take_flat {l : List Ru} {i : Nat} (h : i < l.length) : (l.take (i + 1)).flatMap encR = (l.take i).flatMap encR ++ encR l[i] := by
 rw [List.take_succ_eq_append_getElem h, List.flatMap_append]
 simp
theorem pc24 (a b : List Ru) (ha : a.length ≤ 1000) (hb : b.length ≤ 1000) (hs : smR (a ++ b)) : PC Tryz.prog 24 [slR a, slR b] (slR (a ++ b)) := by
 have hsum : sumR [a, b] ≤ 100000 := by simp [sumR]; omega
 have hfl : [a, b].flatten = a ++ b := by simp
 have h63 := pc63 [a, b] (by simp) hsum
 rw [hfl] at h63
 have hll : (a ++ b).length ≤ 2000 := by rw [List.length_append]; omega
 generalize a ++ b = l at h63 hs hll ⊢
 refine PC.walk tok mixed cfg0 Tryz.func24 rfl Tryz.call24 (by simp [Pd.bel_slN, Px.bel_slN, Pd.bel_Ns, Px.bel_Ns, belAll_append]) (by first | rfl | simp [Pd.bel_slN, Px.bel_slN, Pd.bel_Ns, Px.bel_Ns, belAll_append]) ?_; refine vms1 Tryz.ntmps24 ?_
 refine callO.pc h63 ?_
 refine vms0 ?_
 refine T.lp tok mixed cfg0 (fun (i : Nat) => dd 5 (sv (.buf 0 i 0 i 4) (dd 5 (kp 2 (sv (.int .i64 i) (dd 10 (nl))))))) (fun H0 (i : Nat) => [.cells i ((l.take i).flatMap encR)]) (fun (i : Nat) => i ≤ l.length) (fun (i : Nat) => l.length - i) (0) ?_ ?_ ?_
 ·exact Nat.zero_le _
 ·refine (Gn.ownNil (t := 5) (sz := 4) rfl).trans ?_
  exact Gn.canon (J := []) (by first | rfl | (simp [List.append_nil]; done) | (simp [List.append_nil]; rfl)) (by simp [wk, slR, sum0, Pd.slN, Px.slN, putT, kp, dd, sv, nl]) (by simp [List.length_append]) (by simp [Pd.bel_slN, Px.bel_slN, Pd.bel_Ns, Px.bel_Ns, belAll_append, kp, dd, sv, nl]) (by simp [Pd.bel_slN, Px.bel_slN, Pd.bel_Ns, Px.bel_Ns, belAll_append])
 rintro i hi
 by_cases hlt : i < l.length
 ·have hm := hs l[i] (List.getElem_mem hlt)
  have hlen : ((l.take i).flatMap encR).length = i * 4 := by rw [len_flat lenR, List.length_take]; congr 1; omega
  refine vms1 hlt ?_
  refine callO.pc (pc64 l[i] hm.1 hm.2) ?_
  refine vms2 hlt hlen ?_
  refine ⟨i + 1, hlt, by (try simp only); omega, ?_⟩; exact Gn.canon (by first | rfl | (simp [List.append_nil, take_flat hlt, encR, Pd.slN, Px.slN]; rfl)) (by simp [wk, slR, sum0, Pd.slN, Px.slN, take_flat hlt, encR, Pd.slN, Px.slN]) (by simp [List.length_append]) (by simp [Pd.bel_slN, Px.bel_slN, Pd.bel_Ns, Px.bel_Ns, belAll_append]) (by simp [Pd.bel_slN, Px.bel_slN, Pd.bel_Ns, Px.bel_Ns, belAll_append])
 have hi' : i = l.length := by omega
 subst hi'
 refine vms0 ?_
 refine endK.gn (Gn.freeze (id := 0) rfl) ?_; refine endK.ret ?_ (by first | rfl | simp [Pd.bel_slN, Px.bel_slN, Pd.bel_Ns, Px.bel_Ns, belAll_append]); simp [Pd.bel_slN, Px.bel_slN, Pd.bel_Ns, Px.bel_Ns, belAll_append, fzs_ok, imp, lenOK_iff, List.take_of_length_le, evRes, getT, getO, setO, fzs, fz, fzH, Nat.beq, retV, Res.then, ldT, ldR, mkV, getV, tt_3, tt_4, tt_9, tt_22, tt_54, tt_58, tt_60, tt_174, encR, slR, cfg0, get_flat_part lenR, get_flat_drop lenR, len_flat lenR, Nat.mul_one, Pd.slN, Px.slN, Tryz.f24,  take_R]
end Go.Proofs.YtlbmbbaefncleaaGreatDoor

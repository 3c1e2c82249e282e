/-
  Chapter 40: the switches that are linked, by the reference.
-/
import Derived.Test.YtpjbeoilmmhinaaSmall2
import Derived.Test.YtpjbeoilmmhinaaVm5
set_option maxRecDepth 100000
set_option linter.all false
namespace Go.Proofs.Ytpjbeoilmmhinaa
open Go.Vm

/-- the switches below k that switch a is linked to -/
def row (t : Tp) (a k : Nat) : List Int := ((List.range k).filter fun (b : Nat) => t.links.any (lnk a b)).map Int.ofNat
def rowV (t : Tp) (k a : Nat) : V := slI (row t a k)
theorem bel_rowV {t : Tp} {k a m : Nat} : (rowV t k a).bel m = true := bel_slI _
def nbrs (t : Tp) : List (List Int) := tab t.ports.length fun a => row t a t.ports.length
def slLL (l : List (List Int)) : V := .sl false (l.map slI) l.length
def encN (t : Tp) : V := if chk t = 0 then slLL (nbrs t) else .sl true [] 0
theorem bel_encN {t : Tp} {n : Nat} : (encN t).bel n = true := by
  unfold encN
  split
  · simp only [slLL, V.bel]; exact belAll_map (fun l => bel_slI l) _
  · rfl
/-- what lies below a, at a, behind a -/
def mid (a : Nat) (f : Nat → V) (x : V) (i : Nat) : V := if i < a then f i else if i = a then x else .sl true [] 0
theorem mid_at {a : Nat} {f : Nat → V} {x : V} : mid a f x a = x := by simp [mid]
theorem mid_set {a n : Nat} {f : Nat → V} {x y : V} : tab n (fun k => if k = a then y else mid a f x k) = tab n (mid a f y) := by
  congr 1
  funext k
  by_cases h : k = a
  · subst h; simp [mid]
  · simp [mid, h]
theorem mid_next {a n : Nat} {f : Nat → V} : tab n (mid a f (f a)) = tab n (mid (a + 1) f (.sl true [] 0)) := by
  congr 1
  funext k
  simp only [mid]
  repeat' split
  all_goals first | rfl | omega | (rename_i h1 h2 h3; subst h2; rfl) | (rename_i h1 h2; subst h2; rfl) | skip
theorem mid_zero {n : Nat} {f : Nat → V} : tab n (mid 0 f (.sl true [] 0)) = tab n (fun _ => .sl true [] 0) := by
  congr 1
  funext k
  simp [mid]
theorem mid_end {n : Nat} {f : Nat → V} {x : V} : tab n (mid n f x) = tab n f := tab_ext fun i hi => by simp [mid, hi]
theorem belMid {a n m : Nat} {f : Nat → V} {x : V} (hf : ∀ i, (f i).bel m = true) (hx : x.bel m = true) : belAll m (tab n (mid a f x)) = true := by
  refine belAll_tab fun i _ => ?_
  simp only [mid]
  split
  · exact hf i
  · split
    · exact hx
    · rfl
theorem row_succ {t : Tp} {a b : Nat} : row t a (b + 1) = row t a b ++ (if t.links.any (lnk a b) then [(b : Int)] else []) := by
  unfold row
  rw [List.range_succ, List.filter_append, List.map_append]
  congr 1
  by_cases h : t.links.any (lnk a b) = true <;> simp [h]
theorem row_length {t : Tp} {a b : Nat} : (row t a b).length ≤ b := by
  unfold row
  rw [List.length_map]
  exact Nat.le_trans (List.length_filter_le _ _) (by simp)
theorem fz_mid {a n id ver : Nat} {t : Tp} {l : List Int} {m : Nat} : fzs id ver (l.map (V.int .i64)) (tab n (mid a (rowV t m) (.buf id ver 0 l.length 1))) = tab n (mid a (rowV t m) (slI l)) := by
  rw [fzs_tab]
  congr 1
  funext k
  simp only [mid]
  split
  · exact fz_bel _ bel_rowV
  · split
    · simp only [fz, Nat.beq_refl, List.drop_zero, slI]
      rw [List.take_of_length_le (by simp)]
    · rfl

theorem chk_small {t : Tp} (h : chk t = 0) : 0 < t.ports.length ∧ t.ports.length ≤ 16 ∧ t.links.length ≤ 32 ∧ t.hosts.length ≤ 16 := by
  unfold chk at h
  split at h
  · omega
  · split at h
    · omega
    · split at h
      · omega
      · split at h
        · omega
        · omega

theorem bel_nils {n m : Nat} : belAll m (tab n fun _ => V.sl true [] 0) = true := belAll_tab fun _ _ => rfl
theorem bel_mid1 {n m a k : Nat} {t : Tp} : belAll m (tab n (mid a (rowV t k) (.sl true [] 0))) = true := belMid (fun _ => bel_rowV) rfl
theorem bel_mid2 {n m a k id ver off len sz : Nat} {t : Tp} (h : id < m) : belAll m (tab n (mid a (rowV t k) (.buf id ver off len sz))) = true := belMid (fun _ => bel_rowV) (by simp [V.bel, h])
theorem row_zero {t : Tp} {a : Nat} : row t a 0 = [] := rfl
theorem pc20 (t : Tp) (hf : t.fit) : PC Try.prog 20 [.agg (encT t)] (encN t) := by
  have hp := hf.ports
  refine PC.walk tok mixed cfg0 Try.func20 rfl Try.call20 (by simp [belAll, V.bel, belObs, Ob.bel, belT, belP, bel_slI, bel_slL, bel_slP, bel_ints, bel_Ps, bel_Ls, bel_encN, bel_nils, bel_mid1, bel_mid2]) (by first | rfl | simp [belAll, V.bel, belObs, Ob.bel, belT, belP, bel_slI, bel_slL, bel_slP, bel_ints, bel_Ps, bel_Ls, bel_encN, bel_nils, bel_mid1, bel_mid2]) ?_; simp (config := { maxSteps := 2000000 }) -implicitDefEqProofs +contextual (disch := first | assumption | omega | decide +kernel) only [push_cast, ↓capI, br2_true, br2_false, frk_tt, frk_tf, frk_f, frkD_tt, frkD_tf, frkD_f, pk2_true, pk2_false, imp_true, Nat.reduceAdd, Nat.reduceSub, Nat.reduceMul, Nat.reduceLeDiff, Nat.reduceLT, reduceCtorEq, ↓reduceIte, Nat.reduceEqDiff, Nat.reduceSub, Nat.reduceMul, Int.reduceNeg, Int.reduceLT, Int.reduceLE, Int.reduceAdd, Int.reduceSub, Int.reduceMul, Int.reduceEq, Int.reduceToNat, Nat.reduceDiv, Nat.reduceMod, Nat.reduceBEq, Nat.reduceBNe, reduceCtorEq, tt_26, tt_32, tt_22, tt_23, tt_24, tt_3, tt_4, tt_42, tt_29, tt_38, tt_53, tt_54, encT, encP, encL, slI, slP, slL, cfg0, eqP, Nat.mul_one, tab_length, mid_at, putV_tab, mid_set, getV_tabP, belMid, Try.ntmps20]
  refine callO.pc (pc12 t hf) ?_
  simp (config := { maxSteps := 2000000 }) -implicitDefEqProofs +contextual (disch := first | assumption | omega | decide +kernel) only [push_cast, ↓capI, br2_true, br2_false, frk_tt, frk_tf, frk_f, frkD_tt, frkD_tf, frkD_f, pk2_true, pk2_false, imp_true, Nat.reduceAdd, Nat.reduceSub, Nat.reduceMul, Nat.reduceLeDiff, Nat.reduceLT, reduceCtorEq, ↓reduceIte, Nat.reduceEqDiff, Nat.reduceSub, Nat.reduceMul, Int.reduceNeg, Int.reduceLT, Int.reduceLE, Int.reduceAdd, Int.reduceSub, Int.reduceMul, Int.reduceEq, Int.reduceToNat, Nat.reduceDiv, Nat.reduceMod, Nat.reduceBEq, Nat.reduceBNe, reduceCtorEq, tt_26, tt_32, tt_22, tt_23, tt_24, tt_3, tt_4, tt_42, tt_29, tt_38, tt_53, tt_54, encT, encP, encL, slI, slP, slL, cfg0, eqP, Nat.mul_one, tab_length, mid_at, putV_tab, mid_set, getV_tabP, belMid]
  refine ⟨fun h0 => ?_, fun h0 => ?_⟩
  · refine endK.ret ?_ (by first | rfl | simp [belAll, V.bel, belObs, Ob.bel, belT, belP, bel_slI, bel_slL, bel_slP, bel_ints, bel_Ps, bel_Ls, bel_encN, bel_nils, bel_mid1, bel_mid2]); simp [evRes, getT, retV, Try.f20,  encN, h0]
  obtain ⟨hn0, hn, _, _⟩ := chk_small h0
  simp (config := { maxSteps := 2000000 }) -implicitDefEqProofs +contextual (disch := first | assumption | omega | decide +kernel) only [push_cast, ↓capI, br2_true, br2_false, frk_tt, frk_tf, frk_f, frkD_tt, frkD_tf, frkD_f, pk2_true, pk2_false, imp_true, Nat.reduceAdd, Nat.reduceSub, Nat.reduceMul, Nat.reduceLeDiff, Nat.reduceLT, reduceCtorEq, ↓reduceIte, Nat.reduceEqDiff, Nat.reduceSub, Nat.reduceMul, Int.reduceNeg, Int.reduceLT, Int.reduceLE, Int.reduceAdd, Int.reduceSub, Int.reduceMul, Int.reduceEq, Int.reduceToNat, Nat.reduceDiv, Nat.reduceMod, Nat.reduceBEq, Nat.reduceBNe, reduceCtorEq, tt_26, tt_32, tt_22, tt_23, tt_24, tt_3, tt_4, tt_42, tt_29, tt_38, tt_53, tt_54, encT, encP, encL, slI, slP, slL, cfg0, eqP, Nat.mul_one, tab_length, mid_at, putV_tab, mid_set, getV_tabP, belMid]
  refine T.lp tok mixed cfg0 (fun (a : Nat) => dd 1 (kp 1 (dd 1 (kp 1 (sv (.int .i64 a) (dd 37 (nl))))))) (fun H0 (a : Nat) => [.cells 0 (encT t), .cells 0 (tab t.ports.length (mid a (rowV t t.ports.length) (.sl true [] 0)))]) (fun (a : Nat) => a ≤ t.ports.length) (fun (a : Nat) => t.ports.length - a) (0) ?_ ?_ ?_
  · exact Nat.zero_le _
  · rw [mid_zero]
    exact Gn.canon (J := []) (by first | rfl | (simp [encT, encP, encL, slI, slP, slL, rep_tab, tab_length, setO, tab_set, mid_set, row_zero]; done) | (simp [encT, encP, encL, slI, slP, slL, rep_tab, tab_length, setO, tab_set, mid_set, row_zero]; rfl)) (by simp [wk, slP, slL, slI, putT, kp, dd, sv, nl]) (by simp [List.length_append]) (by simp [belAll, V.bel, belObs, Ob.bel, belT, belP, bel_slI, bel_slL, bel_slP, bel_ints, bel_Ps, bel_Ls, bel_encN, bel_nils, bel_mid1, bel_mid2, kp, dd, sv, nl]) (by simp [belAll, V.bel, belObs, Ob.bel, belT, belP, bel_slI, bel_slL, bel_slP, bel_ints, bel_Ps, bel_Ls, bel_encN, bel_nils, bel_mid1, bel_mid2])
  intro a ha
  simp (config := { maxSteps := 2000000 }) -implicitDefEqProofs +contextual (disch := first | assumption | omega | decide +kernel) only [push_cast, ↓capI, br2_true, br2_false, frk_tt, frk_tf, frk_f, frkD_tt, frkD_tf, frkD_f, pk2_true, pk2_false, imp_true, Nat.reduceAdd, Nat.reduceSub, Nat.reduceMul, Nat.reduceLeDiff, Nat.reduceLT, reduceCtorEq, ↓reduceIte, Nat.reduceEqDiff, Nat.reduceSub, Nat.reduceMul, Int.reduceNeg, Int.reduceLT, Int.reduceLE, Int.reduceAdd, Int.reduceSub, Int.reduceMul, Int.reduceEq, Int.reduceToNat, Nat.reduceDiv, Nat.reduceMod, Nat.reduceBEq, Nat.reduceBNe, reduceCtorEq, tt_26, tt_32, tt_22, tt_23, tt_24, tt_3, tt_4, tt_42, tt_29, tt_38, tt_53, tt_54, encT, encP, encL, slI, slP, slL, cfg0, eqP, Nat.mul_one, tab_length, mid_at, putV_tab, mid_set, getV_tabP, belMid]
  refine ⟨fun hlt => ?_, fun hge => ?_⟩
  · refine T.lp tok mixed cfg0 (fun ((b, ver) : Nat × Nat) => dd 1 (kp 1 (dd 1 (kp 2 (sv (.int .i64 b) (dd 36 (nl))))))) (fun H0 ((b, ver) : Nat × Nat) => [.cells 0 (encT t), .cells 0 (tab t.ports.length (mid a (rowV t t.ports.length) (.buf 2 ver 0 (row t a b).length 1))), .cells ver ((row t a b).map (V.int .i64))]) (fun ((b, ver) : Nat × Nat) => b ≤ t.ports.length) (fun ((b, ver) : Nat × Nat) => t.ports.length - b) ((0, 0)) ?_ ?_ ?_
    · exact Nat.zero_le _
    · refine (Gn.ownCell (id := 1) (i := a) (sz := 1) rfl (by rw [tab_get hlt, mid_at])).trans ?_
      exact Gn.canon (J := []) (by first | rfl | (simp [encT, encP, encL, slI, slP, slL, rep_tab, tab_length, setO, tab_set, mid_set, row_zero]; done) | (simp [encT, encP, encL, slI, slP, slL, rep_tab, tab_length, setO, tab_set, mid_set, row_zero]; rfl)) (by simp [wk, slP, slL, slI, putT, kp, dd, sv, nl]) (by simp [List.length_append]) (by simp [belAll, V.bel, belObs, Ob.bel, belT, belP, bel_slI, bel_slL, bel_slP, bel_ints, bel_Ps, bel_Ls, bel_encN, bel_nils, bel_mid1, bel_mid2, kp, dd, sv, nl]) (by simp [belAll, V.bel, belObs, Ob.bel, belT, belP, bel_slI, bel_slL, bel_slP, bel_ints, bel_Ps, bel_Ls, bel_encN, bel_nils, bel_mid1, bel_mid2])
    rintro ⟨b, ver⟩ hb
    simp (config := { maxSteps := 2000000 }) -implicitDefEqProofs +contextual (disch := first | assumption | omega | decide +kernel) only [push_cast, ↓capI, br2_true, br2_false, frk_tt, frk_tf, frk_f, frkD_tt, frkD_tf, frkD_f, pk2_true, pk2_false, imp_true, Nat.reduceAdd, Nat.reduceSub, Nat.reduceMul, Nat.reduceLeDiff, Nat.reduceLT, reduceCtorEq, ↓reduceIte, Nat.reduceEqDiff, Nat.reduceSub, Nat.reduceMul, Int.reduceNeg, Int.reduceLT, Int.reduceLE, Int.reduceAdd, Int.reduceSub, Int.reduceMul, Int.reduceEq, Int.reduceToNat, Nat.reduceDiv, Nat.reduceMod, Nat.reduceBEq, Nat.reduceBNe, reduceCtorEq, tt_26, tt_32, tt_22, tt_23, tt_24, tt_3, tt_4, tt_42, tt_29, tt_38, tt_53, tt_54, encT, encP, encL, slI, slP, slL, cfg0, eqP, Nat.mul_one, tab_length, mid_at, putV_tab, mid_set, getV_tabP, belMid]
    refine ⟨fun hlt2 => ?_, fun hge2 => ?_⟩
    · refine callO.pc (pc33 t a b hf) ?_
      have := row_length (t := t) (a := a) (b := b)
      simp (config := { maxSteps := 2000000 }) -implicitDefEqProofs +contextual (disch := first | assumption | omega | decide +kernel) only [push_cast, ↓capI, br2_true, br2_false, frk_tt, frk_tf, frk_f, frkD_tt, frkD_tf, frkD_f, pk2_true, pk2_false, imp_true, Nat.reduceAdd, Nat.reduceSub, Nat.reduceMul, Nat.reduceLeDiff, Nat.reduceLT, reduceCtorEq, ↓reduceIte, Nat.reduceEqDiff, Nat.reduceSub, Nat.reduceMul, Int.reduceNeg, Int.reduceLT, Int.reduceLE, Int.reduceAdd, Int.reduceSub, Int.reduceMul, Int.reduceEq, Int.reduceToNat, Nat.reduceDiv, Nat.reduceMod, Nat.reduceBEq, Nat.reduceBNe, reduceCtorEq, tt_26, tt_32, tt_22, tt_23, tt_24, tt_3, tt_4, tt_42, tt_29, tt_38, tt_53, tt_54, encT, encP, encL, slI, slP, slL, cfg0, eqP, Nat.mul_one, tab_length, mid_at, putV_tab, mid_set, getV_tabP, belMid]
      refine ⟨fun hl => ?_, fun hl => ?_⟩
      · refine ⟨(b + 1, ver + 1), hlt2, by (try simp only); omega, ?_⟩
        exact Gn.canon (J := []) (by simp [encT, encP, encL, slI, slP, slL, rep_tab, tab_length, setO, tab_set, mid_set, row_zero, row_succ, hl]) (by simp [wk, slP, slL, slI]) (by simp) (by simp [belAll, V.bel, belObs, Ob.bel, belT, belP, bel_slI, bel_slL, bel_slP, bel_ints, bel_Ps, bel_Ls, bel_encN, bel_nils, bel_mid1, bel_mid2]) (by simp [belAll, V.bel, belObs, Ob.bel, belT, belP, bel_slI, bel_slL, bel_slP, bel_ints, bel_Ps, bel_Ls, bel_encN, bel_nils, bel_mid1, bel_mid2])
      · refine ⟨(b + 1, ver), hlt2, by (try simp only); omega, ?_⟩
        exact Gn.canon (J := []) (by simp [encT, encP, encL, slI, slP, slL, rep_tab, tab_length, setO, tab_set, mid_set, row_zero, row_succ, hl]) (by simp [wk, slP, slL, slI]) (by simp) (by simp [belAll, V.bel, belObs, Ob.bel, belT, belP, bel_slI, bel_slL, bel_slP, bel_ints, bel_Ps, bel_Ls, bel_encN, bel_nils, bel_mid1, bel_mid2]) (by simp [belAll, V.bel, belObs, Ob.bel, belT, belP, bel_slI, bel_slL, bel_slP, bel_ints, bel_Ps, bel_Ls, bel_encN, bel_nils, bel_mid1, bel_mid2])
    · obtain rfl : b = t.ports.length := by simp only at hb; omega
      refine ⟨a + 1, hlt, by (try simp only); omega, ?_⟩
      refine (Gn.freeze (id := 2) rfl).trans ?_
      refine Gn.canon (J := [.dead]) ?_ (by simp [wk, slP, slL, slI, fzs, fz, fzs_ok, bel_ints, bel_Ps, bel_Ls]) (by simp) (by simp [belAll, V.bel, belObs, Ob.bel, belT, belP, bel_slI, bel_slL, bel_slP, bel_ints, bel_Ps, bel_Ls, bel_encN, bel_nils, bel_mid1, bel_mid2]) (by simp [belAll, V.bel, belObs, Ob.bel, belT, belP, bel_slI, bel_slL, bel_slP, bel_ints, bel_Ps, bel_Ls, bel_encN, bel_nils, bel_mid1, bel_mid2])
      have hb := fzs_ok (id := 2) (ver := ver) (l := (row t a t.ports.length).map (V.int .i64)) (belT t)
      simp only [encT, slI, slP, slL] at hb
      simp only [setO, fzH, fz_mid, List.cons_append, List.nil_append, hb]
      rw [← mid_next]
      rfl
  · refine endK.gn (Gn.freeze (id := 1) rfl) (endK.ret ?_ bel_encN)
    obtain rfl : a = t.ports.length := by omega
    simp [evRes, getT, retV, Try.f20, fzs, fz, mid_end, encN, h0, slLL, nbrs]
    rw [List.take_of_length_le (by rw [tab_length]; exact Nat.le_refl _), tab_map, tab_length]
    exact ⟨rfl, rfl⟩
end Go.Proofs.Ytpjbeoilmmhinaa

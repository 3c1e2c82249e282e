/-
  Joined by a program from the texts Ddp L7.
-/
import Derived.Test.YtkjffppioddnpaaMd
import Derived.Test.YtkjffppioddnpaaMg
/- Chapter 42: lists found by Distinguish; equal automata. -/
set_option maxRecDepth 100000
set_option maxHeartbeats 4000000
set_option linter.all false
namespace Go.Proofs.Ytkjffppioddnpaa
open Go.Vm
theorem dF_len {sk : Bool} {a b : Tb} {M : Nat} {l : List Int} : ∀ k i, dF sk a b M k i = some l → l.length ≤ i + k
  | 0, i, h => by simp [dF] at h
  | k + 1, i, h => by
    rw [dF] at h
    split at h
    · cases h
    · rename_i v hv
      split at h
      · cases h
        have := path_len sk a b M i v (List.mem_of_getElem? hv)
        omega
      · have := dF_len k (i + 1) h
        omega
theorem dis_some {a b : Tb} {l : List Int} (h : disO false a b = some l) : l.length ≤ 4226 ∧ accA a l ≠ accA b l := by
  rw [disO] at h
  split at h
  · cases h
  · rename_i hc
    have h1 := dF_len _ _ h
    have h2 := dF_some _ _ h
    rw [disN] at h1
    refine ⟨by omega, ?_⟩
    rw [accA, accA, decide_eq_true (by omega), decide_eq_true (by omega), Bool.true_and, Bool.true_and]
    exact h2
theorem pc11z : PC Try.prog 11 [zTb, zTb] (.bool true) := by
  refine PC.lax ?_
  have := pc11 (a := ⟨[], []⟩) (b := ⟨[], []⟩) (by decide) (by decide) (fun r hr => by simp at hr)
  rw [decide_eq_true rfl] at this
  exact this
theorem pc11s {n m : Nat} {t : Tb} (ht : okT n m t) : PC Try.prog 11 [.agg (encT t), .agg (encT t)] (.bool true) := by
  have h1 := ht.rows
  have h2 := ht.accs
  have h3 := ht.big
  have h4 := ht.cols
  have := pc11 (a := t) (b := t) (by omega) (by omega) (fun r hr => by rw [ht.row r hr]; omega)
  rwa [decide_eq_true rfl] at this
end Go.Proofs.Ytkjffppioddnpaa

/- Chapter 42: equal languages have equal automata. -/
set_option maxRecDepth 100000
set_option maxHeartbeats 4000000
set_option linter.all false
namespace Go.Proofs.Ytkjffppioddnpaa
open Go.Vm

theorem vin_app {p q : Int} {l r : List Vt} (h : vin p q l = true) : vin p q (l ++ r) = true := by
  rw [vin, List.any_append]
  rw [vin] at h
  rw [h, Bool.true_or]
theorem dN_has {a b : Tb} {v : Vt} {l : List Vt} : ∀ (k s : Nat), s < k → vin (suc a v.p (s : Int)) (suc b v.q (s : Int)) (dN false a b v l k) = true
  | 0, s, h => by omega
  | k + 1, s, h => by
    rw [dN, dI]
    by_cases hs : s = k
    · subst hs
      split
      · rename_i hsn
        simpa [seen] using hsn
      · rw [vin, List.any_append]
        simp
    · have ih := dN_has (a := a) (b := b) (v := v) (l := l) k s (by omega)
      split
      · exact ih
      · exact vin_app ih
theorem dst_stop {sk : Bool} {a b : Tb} {M i : Nat} (h : (dst sk a b M i).length ≤ i) : ∀ k, dst sk a b M (i + k) = dst sk a b M i
  | 0 => rfl
  | k + 1 => by
    have ih := dst_stop h k
    rw [← Nat.add_assoc, dst, List.getElem?_eq_none (by rw [ih]; omega), ih]
theorem dst_pre2 (sk : Bool) (a b : Tb) (M i : Nat) : ∀ k, ∃ r, dst sk a b M (i + k) = dst sk a b M i ++ r
  | 0 => ⟨[], by simp⟩
  | k + 1 => by
    obtain ⟨r, hr⟩ := dst_pre2 sk a b M i k
    obtain ⟨r2, hr2⟩ := dst_pre sk a b M (i + k)
    exact ⟨r ++ r2, by rw [← Nat.add_assoc, hr2, hr, List.append_assoc]⟩
theorem dF_none {sk : Bool} {a b : Tb} {M : Nat} : ∀ k i, dF sk a b M k i = none → ∀ j, i ≤ j → j < i + k → ∀ v, (dst sk a b M j)[j]? = some v → dif a b v = false
  | 0, i, _, j, h1, h2, _, _ => by omega
  | k + 1, i, h, j, h1, h2, v, hv => by
    rw [dF] at h
    cases hi : (dst sk a b M i)[i]? with
    | none =>
      have hl := List.getElem?_eq_none_iff.1 hi
      have := dst_stop hl (j - i)
      rw [show i + (j - i) = j from by omega] at this
      rw [this, List.getElem?_eq_none (by omega)] at hv
      cases hv
    | some u =>
      rw [hi] at h
      simp only at h
      split at h
      · cases h
      · rename_i hd
        by_cases hij : i = j
        · subst hij
          rw [hi] at hv
          cases hv
          simpa using hd
        · exact dF_none k (i + 1) h j (by omega) (by omega) v hv
theorem dis_none {a b : Tb} (ha0 : chkT a = 0) (hb0 : chkT b = 0) (h : disO false a b = none) : Eq2 a 0 b 0 := by
  rw [disO, if_neg (by omega), disR] at h
  obtain ⟨ha, ha64⟩ := okT_of ha0
  obtain ⟨hb, hb64⟩ := okT_of hb0
  have hMa : colsT a ≤ max (colsT a) (colsT b) := by omega
  have hMb : colsT b ≤ max (colsT a) (colsT b) := by omega
  generalize max (colsT a) (colsT b) = M at h hMa hMb
  have hN := dF_none _ _ h
  have hlen := fun i => (dst_ok (sk := false) (M := M) ha hb i).len ha64 hb64
  have hrng := (dst_ok (sk := false) (M := M) ha hb 4225).rng
  have hin : ∀ v ∈ dst false a b M 4225, dif a b v = false ∧ ∀ s, s < M → vin (suc a v.p (s : Int)) (suc b v.q (s : Int)) (dst false a b M 4225) = true := by
    intro v hv
    obtain ⟨i, hi, e⟩ := List.getElem_of_mem hv
    have hi2 := hlen 4225
    have hii : i < (dst false a b M i).length := by
      by_cases hc : i < (dst false a b M i).length
      · exact hc
      · exfalso
        have := dst_stop (sk := false) (a := a) (b := b) (M := M) (i := i) (by omega) (4225 - i)
        rw [show i + (4225 - i) = 4225 from by omega] at this
        rw [this] at hi
        omega
    have hvi : (dst false a b M i)[i]? = some v := by
      obtain ⟨r, hr⟩ := dst_pre2 false a b M i (4225 - i)
      rw [show i + (4225 - i) = 4225 from by omega] at hr
      rw [← e, List.getElem?_eq_getElem hii]
      simp only [hr, List.getElem_append_left hii]
    refine ⟨hN i (Nat.zero_le _) (by rw [disN]; omega) v hvi, fun s hs => ?_⟩
    obtain ⟨r, hr⟩ := dst_pre2 false a b M (i + 1) (4225 - (i + 1))
    rw [show i + 1 + (4225 - (i + 1)) = 4225 from by omega] at hr
    rw [hr]
    refine vin_app ?_
    rw [dst, hvi]
    exact dN_has M s hs
  have key : ∀ (l : List Int) (v : Vt), v ∈ dst false a b M 4225 → La a v.p l = La b v.q l := by
    intro l
    induction l with
    | nil =>
      intro v hv
      have := (hin v hv).1
      rw [La_nil, La_nil]
      simpa [dif] using this
    | cons s l ih =>
      intro v hv
      have hr := hrng v hv
      rw [La_cons, La_cons]
      by_cases hs : 0 ≤ s ∧ s < (M : Int)
      · obtain ⟨j, rfl⟩ : ∃ j : Nat, s = j := ⟨s.toNat, by omega⟩
        have := vin_iff.1 ((hin v hv).2 j (by omega))
        obtain ⟨u, hu, e⟩ := List.mem_map.1 this
        injection e with e1 e2
        rw [← e1, ← e2]
        exact ih u hu
      · have h1 : suc a v.p s = -1 := suc_out ha hr.2.1 (by rw [colsT] at hMa; omega)
        have h2 : suc b v.q s = -1 := suc_out hb hr.2.2.2 (by rw [colsT] at hMb; omega)
        rw [h1, h2, La_neg (by decide), La_neg (by decide)]
  intro l
  obtain ⟨r, hr⟩ := dst_pre2 false a b M 0 4225
  rw [Nat.zero_add] at hr
  exact key l ⟨0, 0, []⟩ (by rw [hr]; simp [dst])
/-- what Build answers: an error, or a minimal automaton -/
def BldS (f : Nat) (r : List Nd) (sw : Int) : Prop :=
  (∃ e, e ≠ 0 ∧ PC Try.prog f [slN r, .int .i64 sw] (.tup [zTb, .int .i64 e])) ∨
  (∃ (t : Tb) (m : Nat) (p : Pr), sw = (m : Int) ∧ okT t.next.length m t ∧ t.next.length ≤ 64 ∧ minS t = t ∧ okP sw p ∧ r = flat p ∧ (flat p).length ≤ 24 ∧ t = minS (detT (nxP p) m) ∧ PC Try.prog f [slN r, .int .i64 sw] (.tup [.agg (encT t), .int .i64 0]))
theorem bldS {r : List Nd} {sw : Int} (hr : r.length ≤ 4000000) : BldS 9 r sw := by
  rcases bld9 (sw := sw) hr with ⟨_, h⟩ | ⟨_, hc, h⟩ | ⟨hs, hc, p, hp, e, hl, h⟩
  · exact .inl ⟨9, by decide, h⟩
  · exact .inl ⟨_, hc, h⟩
  · have hsz := siz_nx sw p hp
    rw [← e] at hsz
    have hD := cls_of (x := nxP p) (by omega)
    obtain ⟨m, rfl⟩ : ∃ m : Nat, sw = (m : Int) := ⟨sw.toNat, by omega⟩
    rw [Int.toNat_natCast] at h
    have hT := (detT_ok hD (x := nxP p) (by simp) (m := m) (by omega) (by omega)).1
    have hM := (minS_ok hT).1
    have hmm := minS_min hT
    rw [bldV] at h
    by_cases h64 : 64 < (minS (detT (nxP p) m)).next.length
    · rw [if_pos h64] at h
      exact .inl ⟨12, by decide, h⟩
    · rw [if_neg h64] at h
      exact .inr ⟨_, m, p, rfl, hM, by omega, hmm, hp, e, by rw [← e]; exact hl, rfl, h⟩
theorem pc7 {r s : List Nd} {sw : Int} : PC Try.prog 7 [slN r, slN s, .int .i64 sw] (.bool true) := by
  by_cases h1 : 60 < r.length
  · refine PC.walk tok mixed cfg0 Try.func7 rfl Try.call7 (by simp [belAll_append, bel_ints, bel_bools, bel_rows, bel_slI, bel_slR, bel_slB, bel_encT, bel_pthV, belN, bel_Ns, bel_slN]) (by first | rfl | simp [belAll_append, bel_ints, bel_bools, bel_rows, bel_slI, bel_slR, bel_slB, bel_encT, bel_pthV, belN, bel_Ns, bel_slN]) ?_; simp (maxSteps := 2000000) -implicitDefEqProofs +contextual (disch := first | assumption | omega | decide +kernel) only [push_cast, ↓capI, br2_true, br2_false, frk_tt, frk_tf, frk_f, frkD_tt, frkD_tf, frkD_f, pk2_true, pk2_false, imp_true, seval, Nat.reduceLeDiff, Nat.reduceEqDiff, reduceCtorEq, ↓reduceIte, cfg0, slI, slR, slB, encT, ones_ints, ones_bools, getV_map, getV_mapO, List.length_map, Nat.mul_one, slN, Try.ntmps7]
    (try simp (maxSteps := 2000000) -implicitDefEqProofs +contextual (disch := first | assumption | omega | decide +kernel) only [push_cast, ↓capI, br2_true, br2_false, frk_tt, frk_tf, frk_f, frkD_tt, frkD_tf, frkD_f, pk2_true, pk2_false, imp_true, seval, Nat.reduceLeDiff, Nat.reduceEqDiff, reduceCtorEq, ↓reduceIte, cfg0, slI, slR, slB, encT, ones_ints, ones_bools, getV_map, getV_mapO, List.length_map, Nat.mul_one, slN, h1])
    refine callO.pc pc8 ?_
    simp (maxSteps := 2000000) -implicitDefEqProofs +contextual (disch := first | assumption | omega | decide +kernel) only [push_cast, ↓capI, br2_true, br2_false, frk_tt, frk_tf, frk_f, frkD_tt, frkD_tf, frkD_f, pk2_true, pk2_false, imp_true, seval, Nat.reduceLeDiff, Nat.reduceEqDiff, reduceCtorEq, ↓reduceIte, cfg0, slI, slR, slB, encT, ones_ints, ones_bools, getV_map, getV_mapO, List.length_map, Nat.mul_one, slN]
    refine endK.ret ?_ (by first | rfl | simp [belAll_append, bel_ints, bel_bools, bel_rows, bel_slI, bel_slR, bel_slB, bel_encT, bel_pthV, belN, bel_Ns, bel_slN]); simp [evRes, getT, retV, Try.f7]
  by_cases h2 : 60 < s.length
  · refine PC.walk tok mixed cfg0 Try.func7 rfl Try.call7 (by simp [belAll_append, bel_ints, bel_bools, bel_rows, bel_slI, bel_slR, bel_slB, bel_encT, bel_pthV, belN, bel_Ns, bel_slN]) (by first | rfl | simp [belAll_append, bel_ints, bel_bools, bel_rows, bel_slI, bel_slR, bel_slB, bel_encT, bel_pthV, belN, bel_Ns, bel_slN]) ?_; simp (maxSteps := 2000000) -implicitDefEqProofs +contextual (disch := first | assumption | omega | decide +kernel) only [push_cast, ↓capI, br2_true, br2_false, frk_tt, frk_tf, frk_f, frkD_tt, frkD_tf, frkD_f, pk2_true, pk2_false, imp_true, seval, Nat.reduceLeDiff, Nat.reduceEqDiff, reduceCtorEq, ↓reduceIte, cfg0, slI, slR, slB, encT, ones_ints, ones_bools, getV_map, getV_mapO, List.length_map, Nat.mul_one, slN, Try.ntmps7]
    (try simp (maxSteps := 2000000) -implicitDefEqProofs +contextual (disch := first | assumption | omega | decide +kernel) only [push_cast, ↓capI, br2_true, br2_false, frk_tt, frk_tf, frk_f, frkD_tt, frkD_tf, frkD_f, pk2_true, pk2_false, imp_true, seval, Nat.reduceLeDiff, Nat.reduceEqDiff, reduceCtorEq, ↓reduceIte, cfg0, slI, slR, slB, encT, ones_ints, ones_bools, getV_map, getV_mapO, List.length_map, Nat.mul_one, slN, h1, h2])
    refine callO.pc pc8 ?_
    simp (maxSteps := 2000000) -implicitDefEqProofs +contextual (disch := first | assumption | omega | decide +kernel) only [push_cast, ↓capI, br2_true, br2_false, frk_tt, frk_tf, frk_f, frkD_tt, frkD_tf, frkD_f, pk2_true, pk2_false, imp_true, seval, Nat.reduceLeDiff, Nat.reduceEqDiff, reduceCtorEq, ↓reduceIte, cfg0, slI, slR, slB, encT, ones_ints, ones_bools, getV_map, getV_mapO, List.length_map, Nat.mul_one, slN]
    refine endK.ret ?_ (by first | rfl | simp [belAll_append, bel_ints, bel_bools, bel_rows, bel_slI, bel_slR, bel_slB, bel_encT, bel_pthV, belN, bel_Ns, bel_slN]); simp [evRes, getT, retV, Try.f7]
  rcases bldS (r := r) (sw := sw) (by omega) with ⟨e, he, h⟩ | ⟨t, m, p, hsw, ht, h64, hmt, _, _, _, _, h⟩
  · rcases bldS (r := s) (sw := sw) (by omega) with ⟨e', he', h'⟩ | ⟨t', m', p', _, _, _, _, _, _, _, _, h'⟩
    · refine PC.walk tok mixed cfg0 Try.func7 rfl Try.call7 (by simp [belAll_append, bel_ints, bel_bools, bel_rows, bel_slI, bel_slR, bel_slB, bel_encT, bel_pthV, belN, bel_Ns, bel_slN]) (by first | rfl | simp [belAll_append, bel_ints, bel_bools, bel_rows, bel_slI, bel_slR, bel_slB, bel_encT, bel_pthV, belN, bel_Ns, bel_slN]) ?_; simp (maxSteps := 2000000) -implicitDefEqProofs +contextual (disch := first | assumption | omega | decide +kernel) only [push_cast, ↓capI, br2_true, br2_false, frk_tt, frk_tf, frk_f, frkD_tt, frkD_tf, frkD_f, pk2_true, pk2_false, imp_true, seval, Nat.reduceLeDiff, Nat.reduceEqDiff, reduceCtorEq, ↓reduceIte, cfg0, slI, slR, slB, encT, ones_ints, ones_bools, getV_map, getV_mapO, List.length_map, Nat.mul_one, slN, Try.ntmps7]
      (try simp (maxSteps := 2000000) -implicitDefEqProofs +contextual (disch := first | assumption | omega | decide +kernel) only [push_cast, ↓capI, br2_true, br2_false, frk_tt, frk_tf, frk_f, frkD_tt, frkD_tf, frkD_f, pk2_true, pk2_false, imp_true, seval, Nat.reduceLeDiff, Nat.reduceEqDiff, reduceCtorEq, ↓reduceIte, cfg0, slI, slR, slB, encT, ones_ints, ones_bools, getV_map, getV_mapO, List.length_map, Nat.mul_one, slN, h1, h2])
      refine callO.pc h ?_
      simp (maxSteps := 2000000) -implicitDefEqProofs +contextual (disch := first | assumption | omega | decide +kernel) only [push_cast, ↓capI, br2_true, br2_false, frk_tt, frk_tf, frk_f, frkD_tt, frkD_tf, frkD_f, pk2_true, pk2_false, imp_true, seval, Nat.reduceLeDiff, Nat.reduceEqDiff, reduceCtorEq, ↓reduceIte, cfg0, slI, slR, slB, encT, ones_ints, ones_bools, getV_map, getV_mapO, List.length_map, Nat.mul_one, slN, zTb]
      refine callO.pc h' ?_
      simp (maxSteps := 2000000) -implicitDefEqProofs +contextual (disch := first | assumption | omega | decide +kernel) only [push_cast, ↓capI, br2_true, br2_false, frk_tt, frk_tf, frk_f, frkD_tt, frkD_tf, frkD_f, pk2_true, pk2_false, imp_true, seval, Nat.reduceLeDiff, Nat.reduceEqDiff, reduceCtorEq, ↓reduceIte, cfg0, slI, slR, slB, encT, ones_ints, ones_bools, getV_map, getV_mapO, List.length_map, Nat.mul_one, slN, zTb, he]
      refine callO.pc pc8 ?_
      simp (maxSteps := 2000000) -implicitDefEqProofs +contextual (disch := first | assumption | omega | decide +kernel) only [push_cast, ↓capI, br2_true, br2_false, frk_tt, frk_tf, frk_f, frkD_tt, frkD_tf, frkD_f, pk2_true, pk2_false, imp_true, seval, Nat.reduceLeDiff, Nat.reduceEqDiff, reduceCtorEq, ↓reduceIte, cfg0, slI, slR, slB, encT, ones_ints, ones_bools, getV_map, getV_mapO, List.length_map, Nat.mul_one, slN]
      refine endK.ret ?_ (by first | rfl | simp [belAll_append, bel_ints, bel_bools, bel_rows, bel_slI, bel_slR, bel_slB, bel_encT, bel_pthV, belN, bel_Ns, bel_slN]); simp [evRes, getT, retV, Try.f7]
    · obtain ⟨nb, cb⟩ := t'
      refine PC.walk tok mixed cfg0 Try.func7 rfl Try.call7 (by simp [belAll_append, bel_ints, bel_bools, bel_rows, bel_slI, bel_slR, bel_slB, bel_encT, bel_pthV, belN, bel_Ns, bel_slN]) (by first | rfl | simp [belAll_append, bel_ints, bel_bools, bel_rows, bel_slI, bel_slR, bel_slB, bel_encT, bel_pthV, belN, bel_Ns, bel_slN]) ?_; simp (maxSteps := 2000000) -implicitDefEqProofs +contextual (disch := first | assumption | omega | decide +kernel) only [push_cast, ↓capI, br2_true, br2_false, frk_tt, frk_tf, frk_f, frkD_tt, frkD_tf, frkD_f, pk2_true, pk2_false, imp_true, seval, Nat.reduceLeDiff, Nat.reduceEqDiff, reduceCtorEq, ↓reduceIte, cfg0, slI, slR, slB, encT, ones_ints, ones_bools, getV_map, getV_mapO, List.length_map, Nat.mul_one, slN, Try.ntmps7]
      (try simp (maxSteps := 2000000) -implicitDefEqProofs +contextual (disch := first | assumption | omega | decide +kernel) only [push_cast, ↓capI, br2_true, br2_false, frk_tt, frk_tf, frk_f, frkD_tt, frkD_tf, frkD_f, pk2_true, pk2_false, imp_true, seval, Nat.reduceLeDiff, Nat.reduceEqDiff, reduceCtorEq, ↓reduceIte, cfg0, slI, slR, slB, encT, ones_ints, ones_bools, getV_map, getV_mapO, List.length_map, Nat.mul_one, slN, h1, h2])
      refine callO.pc h ?_
      simp (maxSteps := 2000000) -implicitDefEqProofs +contextual (disch := first | assumption | omega | decide +kernel) only [push_cast, ↓capI, br2_true, br2_false, frk_tt, frk_tf, frk_f, frkD_tt, frkD_tf, frkD_f, pk2_true, pk2_false, imp_true, seval, Nat.reduceLeDiff, Nat.reduceEqDiff, reduceCtorEq, ↓reduceIte, cfg0, slI, slR, slB, encT, ones_ints, ones_bools, getV_map, getV_mapO, List.length_map, Nat.mul_one, slN, zTb]
      refine callO.pc h' ?_
      simp (maxSteps := 2000000) -implicitDefEqProofs +contextual (disch := first | assumption | omega | decide +kernel) only [push_cast, ↓capI, br2_true, br2_false, frk_tt, frk_tf, frk_f, frkD_tt, frkD_tf, frkD_f, pk2_true, pk2_false, imp_true, seval, Nat.reduceLeDiff, Nat.reduceEqDiff, reduceCtorEq, ↓reduceIte, cfg0, slI, slR, slB, encT, ones_ints, ones_bools, getV_map, getV_mapO, List.length_map, Nat.mul_one, slN, he]
      refine callO.pc pc8 ?_
      simp (maxSteps := 2000000) -implicitDefEqProofs +contextual (disch := first | assumption | omega | decide +kernel) only [push_cast, ↓capI, br2_true, br2_false, frk_tt, frk_tf, frk_f, frkD_tt, frkD_tf, frkD_f, pk2_true, pk2_false, imp_true, seval, Nat.reduceLeDiff, Nat.reduceEqDiff, reduceCtorEq, ↓reduceIte, cfg0, slI, slR, slB, encT, ones_ints, ones_bools, getV_map, getV_mapO, List.length_map, Nat.mul_one, slN]
      refine endK.ret ?_ (by first | rfl | simp [belAll_append, bel_ints, bel_bools, bel_rows, bel_slI, bel_slR, bel_slB, bel_encT, bel_pthV, belN, bel_Ns, bel_slN]); simp [evRes, getT, retV, Try.f7]
  · rcases bldS (r := s) (sw := sw) (by omega) with ⟨e', he', h'⟩ | ⟨t', m', p', hsw', ht', h64', hmt', _, _, _, _, h'⟩
    · obtain ⟨na, ca⟩ := t
      refine PC.walk tok mixed cfg0 Try.func7 rfl Try.call7 (by simp [belAll_append, bel_ints, bel_bools, bel_rows, bel_slI, bel_slR, bel_slB, bel_encT, bel_pthV, belN, bel_Ns, bel_slN]) (by first | rfl | simp [belAll_append, bel_ints, bel_bools, bel_rows, bel_slI, bel_slR, bel_slB, bel_encT, bel_pthV, belN, bel_Ns, bel_slN]) ?_; simp (maxSteps := 2000000) -implicitDefEqProofs +contextual (disch := first | assumption | omega | decide +kernel) only [push_cast, ↓capI, br2_true, br2_false, frk_tt, frk_tf, frk_f, frkD_tt, frkD_tf, frkD_f, pk2_true, pk2_false, imp_true, seval, Nat.reduceLeDiff, Nat.reduceEqDiff, reduceCtorEq, ↓reduceIte, cfg0, slI, slR, slB, encT, ones_ints, ones_bools, getV_map, getV_mapO, List.length_map, Nat.mul_one, slN, Try.ntmps7]
      (try simp (maxSteps := 2000000) -implicitDefEqProofs +contextual (disch := first | assumption | omega | decide +kernel) only [push_cast, ↓capI, br2_true, br2_false, frk_tt, frk_tf, frk_f, frkD_tt, frkD_tf, frkD_f, pk2_true, pk2_false, imp_true, seval, Nat.reduceLeDiff, Nat.reduceEqDiff, reduceCtorEq, ↓reduceIte, cfg0, slI, slR, slB, encT, ones_ints, ones_bools, getV_map, getV_mapO, List.length_map, Nat.mul_one, slN, h1, h2])
      refine callO.pc h ?_
      simp (maxSteps := 2000000) -implicitDefEqProofs +contextual (disch := first | assumption | omega | decide +kernel) only [push_cast, ↓capI, br2_true, br2_false, frk_tt, frk_tf, frk_f, frkD_tt, frkD_tf, frkD_f, pk2_true, pk2_false, imp_true, seval, Nat.reduceLeDiff, Nat.reduceEqDiff, reduceCtorEq, ↓reduceIte, cfg0, slI, slR, slB, encT, ones_ints, ones_bools, getV_map, getV_mapO, List.length_map, Nat.mul_one, slN]
      refine callO.pc h' ?_
      simp (maxSteps := 2000000) -implicitDefEqProofs +contextual (disch := first | assumption | omega | decide +kernel) only [push_cast, ↓capI, br2_true, br2_false, frk_tt, frk_tf, frk_f, frkD_tt, frkD_tf, frkD_f, pk2_true, pk2_false, imp_true, seval, Nat.reduceLeDiff, Nat.reduceEqDiff, reduceCtorEq, ↓reduceIte, cfg0, slI, slR, slB, encT, ones_ints, ones_bools, getV_map, getV_mapO, List.length_map, Nat.mul_one, slN, zTb, he']
      refine callO.pc pc8 ?_
      simp (maxSteps := 2000000) -implicitDefEqProofs +contextual (disch := first | assumption | omega | decide +kernel) only [push_cast, ↓capI, br2_true, br2_false, frk_tt, frk_tf, frk_f, frkD_tt, frkD_tf, frkD_f, pk2_true, pk2_false, imp_true, seval, Nat.reduceLeDiff, Nat.reduceEqDiff, reduceCtorEq, ↓reduceIte, cfg0, slI, slR, slB, encT, ones_ints, ones_bools, getV_map, getV_mapO, List.length_map, Nat.mul_one, slN]
      refine endK.ret ?_ (by first | rfl | simp [belAll_append, bel_ints, bel_bools, bel_rows, bel_slI, bel_slR, bel_slB, bel_encT, bel_pthV, belN, bel_Ns, bel_slN]); simp [evRes, getT, retV, Try.f7]
    · have hmm : m = m' := by omega
      subst hmm
      have hc := chkT_of ht h64
      have hc' := chkT_of ht' h64'
      have h18 := pc18 t
      rw [minV, if_pos hc, hmt] at h18
      have h11 := pc11s ht
      have h11' := pc11 (a := t) (b := t') (by have := ht.big; omega) (by have := ht.accs; have := ht.big; omega) (fun r hr => by rw [ht.row r hr]; have := ht.cols; omega)
      have h15 := pc15 t t'
      have hds := fun l => dis_some (a := t) (b := t') (l := l)
      have hdn := dis_none hc hc'
      cases ho : disO false t t' with
      | none =>
        have heq : t = t' := by rw [← hmt, ← hmt']; exact minS_eq ht ht' (hdn ho)
        rw [ho] at h15
        rw [decide_eq_true heq] at h11'
        simp only [disV] at h15
        clear ho hdn hds heq hmt hmt' hc hc' ht ht' h64 h64'
        obtain ⟨na, ca⟩ := t
        obtain ⟨nb, cb⟩ := t'
        refine PC.walk tok mixed cfg0 Try.func7 rfl Try.call7 (by simp [belAll_append, bel_ints, bel_bools, bel_rows, bel_slI, bel_slR, bel_slB, bel_encT, bel_pthV, belN, bel_Ns, bel_slN]) (by first | rfl | simp [belAll_append, bel_ints, bel_bools, bel_rows, bel_slI, bel_slR, bel_slB, bel_encT, bel_pthV, belN, bel_Ns, bel_slN]) ?_; simp (maxSteps := 2000000) -implicitDefEqProofs +contextual (disch := first | assumption | omega | decide +kernel) only [push_cast, ↓capI, br2_true, br2_false, frk_tt, frk_tf, frk_f, frkD_tt, frkD_tf, frkD_f, pk2_true, pk2_false, imp_true, seval, Nat.reduceLeDiff, Nat.reduceEqDiff, reduceCtorEq, ↓reduceIte, cfg0, slI, slR, slB, encT, ones_ints, ones_bools, getV_map, getV_mapO, List.length_map, Nat.mul_one, slN, Try.ntmps7]
        (try simp (maxSteps := 2000000) -implicitDefEqProofs +contextual (disch := first | assumption | omega | decide +kernel) only [push_cast, ↓capI, br2_true, br2_false, frk_tt, frk_tf, frk_f, frkD_tt, frkD_tf, frkD_f, pk2_true, pk2_false, imp_true, seval, Nat.reduceLeDiff, Nat.reduceEqDiff, reduceCtorEq, ↓reduceIte, cfg0, slI, slR, slB, encT, ones_ints, ones_bools, getV_map, getV_mapO, List.length_map, Nat.mul_one, slN, h1, h2])
        refine callO.pc h ?_
        simp (maxSteps := 2000000) -implicitDefEqProofs +contextual (disch := first | assumption | omega | decide +kernel) only [push_cast, ↓capI, br2_true, br2_false, frk_tt, frk_tf, frk_f, frkD_tt, frkD_tf, frkD_f, pk2_true, pk2_false, imp_true, seval, Nat.reduceLeDiff, Nat.reduceEqDiff, reduceCtorEq, ↓reduceIte, cfg0, slI, slR, slB, encT, ones_ints, ones_bools, getV_map, getV_mapO, List.length_map, Nat.mul_one, slN]
        refine callO.pc h' ?_
        simp (maxSteps := 2000000) -implicitDefEqProofs +contextual (disch := first | assumption | omega | decide +kernel) only [push_cast, ↓capI, br2_true, br2_false, frk_tt, frk_tf, frk_f, frkD_tt, frkD_tf, frkD_f, pk2_true, pk2_false, imp_true, seval, Nat.reduceLeDiff, Nat.reduceEqDiff, reduceCtorEq, ↓reduceIte, cfg0, slI, slR, slB, encT, ones_ints, ones_bools, getV_map, getV_mapO, List.length_map, Nat.mul_one, slN]
        refine callO.pc h18 ?_
        simp (maxSteps := 2000000) -implicitDefEqProofs +contextual (disch := first | assumption | omega | decide +kernel) only [push_cast, ↓capI, br2_true, br2_false, frk_tt, frk_tf, frk_f, frkD_tt, frkD_tf, frkD_f, pk2_true, pk2_false, imp_true, seval, Nat.reduceLeDiff, Nat.reduceEqDiff, reduceCtorEq, ↓reduceIte, cfg0, slI, slR, slB, encT, ones_ints, ones_bools, getV_map, getV_mapO, List.length_map, Nat.mul_one, slN]
        refine callO.pc h15 ?_
        simp (maxSteps := 2000000) -implicitDefEqProofs +contextual (disch := first | assumption | omega | decide +kernel) only [push_cast, ↓capI, br2_true, br2_false, frk_tt, frk_tf, frk_f, frkD_tt, frkD_tf, frkD_f, pk2_true, pk2_false, imp_true, seval, Nat.reduceLeDiff, Nat.reduceEqDiff, reduceCtorEq, ↓reduceIte, cfg0, slI, slR, slB, encT, ones_ints, ones_bools, getV_map, getV_mapO, List.length_map, Nat.mul_one, slN]
        refine callO.pc h11 ?_
        simp (maxSteps := 2000000) -implicitDefEqProofs +contextual (disch := first | assumption | omega | decide +kernel) only [push_cast, ↓capI, br2_true, br2_false, frk_tt, frk_tf, frk_f, frkD_tt, frkD_tf, frkD_f, pk2_true, pk2_false, imp_true, seval, Nat.reduceLeDiff, Nat.reduceEqDiff, reduceCtorEq, ↓reduceIte, cfg0, slI, slR, slB, encT, ones_ints, ones_bools, getV_map, getV_mapO, List.length_map, Nat.mul_one, slN]
        refine callO.pc h11' ?_
        simp (maxSteps := 2000000) -implicitDefEqProofs +contextual (disch := first | assumption | omega | decide +kernel) only [push_cast, ↓capI, br2_true, br2_false, frk_tt, frk_tf, frk_f, frkD_tt, frkD_tf, frkD_f, pk2_true, pk2_false, imp_true, seval, Nat.reduceLeDiff, Nat.reduceEqDiff, reduceCtorEq, ↓reduceIte, cfg0, slI, slR, slB, encT, ones_ints, ones_bools, getV_map, getV_mapO, List.length_map, Nat.mul_one, slN]
        refine callO.pc pc8 ?_
        simp (maxSteps := 2000000) -implicitDefEqProofs +contextual (disch := first | assumption | omega | decide +kernel) only [push_cast, ↓capI, br2_true, br2_false, frk_tt, frk_tf, frk_f, frkD_tt, frkD_tf, frkD_f, pk2_true, pk2_false, imp_true, seval, Nat.reduceLeDiff, Nat.reduceEqDiff, reduceCtorEq, ↓reduceIte, cfg0, slI, slR, slB, encT, ones_ints, ones_bools, getV_map, getV_mapO, List.length_map, Nat.mul_one, slN]
        refine endK.ret ?_ (by first | rfl | simp [belAll_append, bel_ints, bel_bools, bel_rows, bel_slI, bel_slR, bel_slB, bel_encT, bel_pthV, belN, bel_Ns, bel_slN]); simp [evRes, getT, retV, Try.f7]
      | some l =>
        have hne : ¬ t = t' := fun e => by
          have := (hds l ho).2
          rw [e] at this
          exact this rfl
        rw [ho] at h15
        rw [decide_eq_false hne] at h11'
        simp only [disV] at h15
        obtain ⟨pb, pcs, pn, hpv⟩ := pth_sl l
        rw [hpv] at h15
        have hbp : ∀ n, belAll n pcs = true := fun n => by
          have := bel_pthV (n := n) l
          rw [hpv, bel_sl] at this
          exact this
        clear ho hdn hds hne hmt hmt' hc hc' ht ht' h64 h64' hpv
        obtain ⟨na, ca⟩ := t
        obtain ⟨nb, cb⟩ := t'
        refine PC.walk tok mixed cfg0 Try.func7 rfl Try.call7 (by simp [belAll_append, bel_ints, bel_bools, bel_rows, bel_slI, bel_slR, bel_slB, bel_encT, bel_pthV, belN, bel_Ns, bel_slN]) (by first | rfl | simp [belAll_append, bel_ints, bel_bools, bel_rows, bel_slI, bel_slR, bel_slB, bel_encT, bel_pthV, belN, bel_Ns, bel_slN]) ?_; simp (maxSteps := 2000000) -implicitDefEqProofs +contextual (disch := first | assumption | omega | decide +kernel) only [push_cast, ↓capI, br2_true, br2_false, frk_tt, frk_tf, frk_f, frkD_tt, frkD_tf, frkD_f, pk2_true, pk2_false, imp_true, seval, Nat.reduceLeDiff, Nat.reduceEqDiff, reduceCtorEq, ↓reduceIte, cfg0, slI, slR, slB, encT, ones_ints, ones_bools, getV_map, getV_mapO, List.length_map, Nat.mul_one, slN, Try.ntmps7]
        (try simp (maxSteps := 2000000) -implicitDefEqProofs +contextual (disch := first | assumption | omega | decide +kernel) only [push_cast, ↓capI, br2_true, br2_false, frk_tt, frk_tf, frk_f, frkD_tt, frkD_tf, frkD_f, pk2_true, pk2_false, imp_true, seval, Nat.reduceLeDiff, Nat.reduceEqDiff, reduceCtorEq, ↓reduceIte, cfg0, slI, slR, slB, encT, ones_ints, ones_bools, getV_map, getV_mapO, List.length_map, Nat.mul_one, slN, h1, h2])
        refine callO.pc h ?_
        simp (maxSteps := 2000000) -implicitDefEqProofs +contextual (disch := first | assumption | omega | decide +kernel) only [push_cast, ↓capI, br2_true, br2_false, frk_tt, frk_tf, frk_f, frkD_tt, frkD_tf, frkD_f, pk2_true, pk2_false, imp_true, seval, Nat.reduceLeDiff, Nat.reduceEqDiff, reduceCtorEq, ↓reduceIte, cfg0, slI, slR, slB, encT, ones_ints, ones_bools, getV_map, getV_mapO, List.length_map, Nat.mul_one, slN]
        refine callO.pc h' ?_
        simp (maxSteps := 2000000) -implicitDefEqProofs +contextual (disch := first | assumption | omega | decide +kernel) only [push_cast, ↓capI, br2_true, br2_false, frk_tt, frk_tf, frk_f, frkD_tt, frkD_tf, frkD_f, pk2_true, pk2_false, imp_true, seval, Nat.reduceLeDiff, Nat.reduceEqDiff, reduceCtorEq, ↓reduceIte, cfg0, slI, slR, slB, encT, ones_ints, ones_bools, getV_map, getV_mapO, List.length_map, Nat.mul_one, slN]
        refine callO.pc h18 ?_
        simp (maxSteps := 2000000) -implicitDefEqProofs +contextual (disch := first | assumption | omega | decide +kernel) only [push_cast, ↓capI, br2_true, br2_false, frk_tt, frk_tf, frk_f, frkD_tt, frkD_tf, frkD_f, pk2_true, pk2_false, imp_true, seval, Nat.reduceLeDiff, Nat.reduceEqDiff, reduceCtorEq, ↓reduceIte, cfg0, slI, slR, slB, encT, ones_ints, ones_bools, getV_map, getV_mapO, List.length_map, Nat.mul_one, slN]
        refine callO.pc h15 ?_
        simp (maxSteps := 2000000) -implicitDefEqProofs +contextual (disch := first | assumption | omega | decide +kernel) only [push_cast, ↓capI, br2_true, br2_false, frk_tt, frk_tf, frk_f, frkD_tt, frkD_tf, frkD_f, pk2_true, pk2_false, imp_true, seval, Nat.reduceLeDiff, Nat.reduceEqDiff, reduceCtorEq, ↓reduceIte, cfg0, slI, slR, slB, encT, ones_ints, ones_bools, getV_map, getV_mapO, List.length_map, Nat.mul_one, slN]
        refine callO.pc h11 ?_
        simp (maxSteps := 2000000) -implicitDefEqProofs +contextual (disch := first | assumption | omega | decide +kernel) only [push_cast, ↓capI, br2_true, br2_false, frk_tt, frk_tf, frk_f, frkD_tt, frkD_tf, frkD_f, pk2_true, pk2_false, imp_true, seval, Nat.reduceLeDiff, Nat.reduceEqDiff, reduceCtorEq, ↓reduceIte, cfg0, slI, slR, slB, encT, ones_ints, ones_bools, getV_map, getV_mapO, List.length_map, Nat.mul_one, slN]
        refine callO.pc h11' ?_
        simp (maxSteps := 2000000) -implicitDefEqProofs +contextual (disch := first | assumption | omega | decide +kernel) only [push_cast, ↓capI, br2_true, br2_false, frk_tt, frk_tf, frk_f, frkD_tt, frkD_tf, frkD_f, pk2_true, pk2_false, imp_true, seval, Nat.reduceLeDiff, Nat.reduceEqDiff, reduceCtorEq, ↓reduceIte, cfg0, slI, slR, slB, encT, ones_ints, ones_bools, getV_map, getV_mapO, List.length_map, Nat.mul_one, slN]
        refine callO.pc pc8 ?_
        simp (maxSteps := 2000000) -implicitDefEqProofs +contextual (disch := first | assumption | omega | decide +kernel) only [push_cast, ↓capI, br2_true, br2_false, frk_tt, frk_tf, frk_f, frkD_tt, frkD_tf, frkD_f, pk2_true, pk2_false, imp_true, seval, Nat.reduceLeDiff, Nat.reduceEqDiff, reduceCtorEq, ↓reduceIte, cfg0, slI, slR, slB, encT, ones_ints, ones_bools, getV_map, getV_mapO, List.length_map, Nat.mul_one, slN]
        refine endK.ret ?_ (by first | rfl | simp [belAll_append, bel_ints, bel_bools, bel_rows, bel_slI, bel_slR, bel_slB, bel_encT, bel_pthV, belN, bel_Ns, bel_slN]); simp [evRes, getT, retV, Try.f7]
theorem law7 (xs : List V) (h : TypA tt 8 [22, 22, 3] xs) : PC Try.prog 7 xs (.bool true) := by
  obtain ⟨v1, vs, cs, rfl, rfl, h1, h⟩ := typA_cons h
  obtain ⟨v2, vs, cs2, rfl, rfl, h2, h⟩ := typA_cons h
  obtain ⟨v3, vs, cs3, rfl, rfl, h3, h⟩ := typA_cons h
  obtain rfl := typA_nil h
  obtain ⟨a, ha⟩ := typ_slN (m := 5) h1
  obtain ⟨b, hb⟩ := typ_slN (m := 5) h2
  obtain ⟨x, hx⟩ := typ_J (m := 7) h3
  refine PC.lax ?_
  rw [laxs, laxs, laxs, laxs, ha, hb, hx]
  exact pc7
end Go.Proofs.Ytkjffppioddnpaa


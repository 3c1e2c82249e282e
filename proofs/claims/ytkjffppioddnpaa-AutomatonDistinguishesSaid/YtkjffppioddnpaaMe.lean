/-
  Joined by a program from the texts Rdi L5.
-/
import Derived.Test.YtkjffppioddnpaaMd
import Derived.Test.YtkjffppioddnpaaMc
/- Chapter 42: the reference's Distinguish. -/
set_option maxRecDepth 100000
set_option maxHeartbeats 4000000
set_option linter.all false
namespace Go.Proofs.Ytkjffppioddnpaa
open Go.Vm

/-- a pair of states, and how the reference met it -/
structure Wt where
  v : Vt
  fr : Int
  sw : Int
def encWt (x : Wt) : List V := [.int .i64 x.v.p, .int .i64 x.v.q, .int .i64 x.fr, .int .i64 x.sw]
theorem lenWt (x : Wt) : (encWt x).length = 4 := rfl
theorem bel_flatWt {n : Nat} (l : List Wt) : belAll n (l.flatMap encWt) = true := belAll_flat (fun _ => rfl) l
theorem bel_encWt {n : Nat} (x : Wt) : belAll n (encWt x) = true := rfl
def cfgW : Cfg := { lv := [24, 61], ef := [], ord := [], em := [] }
def dIw (a b : Tb) (i : Nat) (v : Vt) (s : Nat) (l : List Wt) : List Wt :=
  if seen true (suc a v.p s) (suc b v.q s) (l.map (·.v)) = true then l else l ++ [⟨⟨suc a v.p s, suc b v.q s, v.path ++ [(s : Int)]⟩, i, s⟩]
def dNw (a b : Tb) (i : Nat) (v : Vt) (l : List Wt) : Nat → List Wt
  | 0 => l
  | n + 1 => dIw a b i v n (dNw a b i v l n)
def dstw (a b : Tb) (M : Nat) : Nat → List Wt
  | 0 => [⟨⟨0, 0, []⟩, -1, 0⟩]
  | i + 1 => match (dstw a b M i)[i]? with
    | some x => dNw a b i x.v (dstw a b M i) M
    | none => dstw a b M i
theorem dNw0 {a b : Tb} {i : Nat} {v : Vt} {l : List Wt} : dNw a b i v l 0 = l := rfl
theorem dstw0 {a b : Tb} {M : Nat} : dstw a b M 0 = [⟨⟨0, 0, []⟩, -1, 0⟩] := rfl
theorem dNw_map (a b : Tb) (i : Nat) (v : Vt) (l : List Wt) : ∀ n, (dNw a b i v l n).map (·.v) = dN true a b v (l.map (·.v)) n
  | 0 => rfl
  | n + 1 => by
    have ih := dNw_map a b i v l n
    rw [dNw, dN, dIw, dI, ih]
    split
    · exact ih
    · rw [List.map_append, ih]; rfl
theorem dstw_map (a b : Tb) (M : Nat) : ∀ i, (dstw a b M i).map (·.v) = dst true a b M i
  | 0 => rfl
  | i + 1 => by
    have ih := dstw_map a b M i
    rw [dstw, dst, ← ih, List.getElem?_map]
    cases h : (dstw a b M i)[i]? with
    | none => simp only [Option.map_none]
    | some x => simp only [Option.map_some]; exact dNw_map ..
theorem dNw_pre (a b : Tb) (i : Nat) (v : Vt) (l : List Wt) : ∀ n, ∃ r, dNw a b i v l n = l ++ r
  | 0 => ⟨[], by simp [dNw]⟩
  | n + 1 => by
    obtain ⟨r, hr⟩ := dNw_pre a b i v l n
    rw [dNw, dIw]
    split
    · exact ⟨r, hr⟩
    · exact ⟨_, by rw [hr, List.append_assoc]⟩
/-- each but the first came from an earlier one -/
def Wch (l : List Wt) : Prop := ∀ (k : Nat) (h : k < l.length), (l[k].fr < 0 ∧ l[k].v.path = []) ∨ ∃ (j : Nat) (hj : j < k), l[k].fr = (j : Int) ∧ l[k].v.path = (l[j]'(by omega)).v.path ++ [l[k].sw]
theorem Wch.app {l : List Wt} {x : Wt} (h : Wch l) (hx : ∃ (j : Nat) (hj : j < l.length), x.fr = (j : Int) ∧ x.v.path = l[j].v.path ++ [x.sw]) : Wch (l ++ [x]) := by
  intro k hk
  by_cases hl : k < l.length
  · rcases h k hl with h1 | ⟨j, hj, h1, h2⟩
    · left
      rw [List.getElem_append_left hl]
      exact h1
    · right
      refine ⟨j, hj, ?_⟩
      rw [List.getElem_append_left hl, List.getElem_append_left (by omega)]
      exact ⟨h1, h2⟩
  · have hkl : k = l.length := by simp at hk; omega
    subst hkl
    obtain ⟨j, hj, h1, h2⟩ := hx
    right
    refine ⟨j, hj, ?_⟩
    rw [List.getElem_append_left hj, List.getElem_append_right (by omega)]
    simp only [Nat.sub_self, List.getElem_singleton]
    exact ⟨h1, h2⟩
theorem dNw_ch {a b : Tb} {i : Nat} {l : List Wt} (hi : i < l.length) (h : Wch l) : ∀ n, Wch (dNw a b i l[i].v l n)
  | 0 => h
  | n + 1 => by
    have ih := dNw_ch (a := a) (b := b) hi h n
    obtain ⟨r, hr⟩ := dNw_pre a b i l[i].v l n
    rw [dNw, dIw]
    split
    · exact ih
    · refine ih.app ⟨i, by rw [hr, List.length_append]; omega, rfl, ?_⟩
      simp only [hr]
      rw [List.getElem_append_left hi]
theorem dstw_ch (a b : Tb) (M : Nat) : ∀ i, Wch (dstw a b M i)
  | 0 => fun k hk => by
    have : k = 0 := by simp [dstw] at hk; omega
    subst this
    exact .inl ⟨by simp [dstw], by simp [dstw]⟩
  | i + 1 => by
    have ih := dstw_ch a b M i
    rw [dstw]
    split
    · rename_i x hx
      obtain ⟨hi, e⟩ := List.getElem?_eq_some_iff.1 hx
      rw [← e]
      exact dNw_ch hi ih M
    · exact ih
theorem vin_succ {p q : Int} {l : List Wt} {k : Nat} (h : k < l.length) : vin p q ((l.take (k + 1)).map (·.v)) = (vin p q ((l.take k).map (·.v)) || (decide (l[k].v.p = p) && decide (l[k].v.q = q))) := by
  rw [List.take_succ_eq_append_getElem h, List.map_append, vin, List.any_append, vin]
  simp
def vt (c0 : Bool) (p q : Int) (l : List Wt) (k : Nat) : Bool := c0 || vin p q ((l.take k).map (·.v))
theorem vt0 {c0 : Bool} {p q : Int} {l : List Wt} : vt c0 p q l 0 = c0 := by
  simp [vt, vin]
theorem vt_all {c0 : Bool} {p q : Int} {l : List Wt} : vt c0 p q l l.length = (c0 || vin p q (l.map (·.v))) := by
  rw [vt, List.take_length]
theorem vt_succ {c0 : Bool} {p q : Int} {l : List Wt} {k : Nat} (h : k < l.length) : vt c0 p q l (k + 1) = (vt c0 p q l k || (decide (l[k].v.p = p) && decide (l[k].v.q = q))) := by
  rw [vt, vin_succ h, ← Bool.or_assoc]; rfl
theorem get_Wt {l : List Wt} {k o m : Nat} (h : k < l.length) (hm : o + m ≤ 4) : getV (l.flatMap encWt) (k * 4 + o) m = getV (encWt l[k]) o m := by
  have := get_flat_drop (enc := encWt) lenWt l k h o m hm
  rw [← this]
  simp only [getV, List.drop_drop, List.drop_zero, Nat.add_zero]
theorem pc16 (a b : Tb) : PC Try.prog 16 [.agg (encT a), .agg (encT b)] (disV (disO true a b)) := by
  have h20a := pc21 a
  have h20b := pc21 b
  rw [disO]
  by_cases hca : chkT a = 0
  case neg =>
    rw [if_pos (.inl hca)]
    obtain ⟨na, ca⟩ := a
    obtain ⟨nb, cb⟩ := b
    refine PC.walk tok mixed cfgW Try.func16 rfl Try.call16 (by simp [belAll_append, bel_ints, bel_bools, bel_rows, bel_slI, bel_slR, bel_slB, bel_encT, bel_pthV, bel_flatWt, bel_encWt, bel_disV]) (by first | rfl | simp [belAll_append, bel_ints, bel_bools, bel_rows, bel_slI, bel_slR, bel_slB, bel_encT, bel_pthV, bel_flatWt, bel_encWt, bel_disV]) ?_; simp (maxSteps := 2000000) -implicitDefEqProofs +contextual (disch := first | assumption | omega | decide +kernel) only [push_cast, ↓capI, br2_true, br2_false, frk_tt, frk_tf, frk_f, frkD_tt, frkD_tf, frkD_f, pk2_true, pk2_false, imp_true, seval, Nat.reduceLeDiff, Nat.reduceEqDiff, reduceCtorEq, ↓reduceIte, cfg0, cfgW, ones_ints, ones_bools, getV_map, getV_mapO, List.length_map, Nat.mul_one, slI, slR, slB, encT, encWt, Try.ntmps16]
    refine callO.pc h20a ?_
    simp (maxSteps := 2000000) -implicitDefEqProofs +contextual (disch := first | assumption | omega | decide +kernel) only [push_cast, ↓capI, br2_true, br2_false, frk_tt, frk_tf, frk_f, frkD_tt, frkD_tf, frkD_f, pk2_true, pk2_false, imp_true, seval, Nat.reduceLeDiff, Nat.reduceEqDiff, reduceCtorEq, ↓reduceIte, cfg0, cfgW, ones_ints, ones_bools, getV_map, getV_mapO, List.length_map, Nat.mul_one, slI, slR, slB, encT, encWt, hca]
    refine endK.ret ?_ (by first | rfl | simp [belAll_append, bel_ints, bel_bools, bel_rows, bel_slI, bel_slR, bel_slB, bel_encT, bel_pthV, bel_flatWt, bel_encWt, bel_disV]); simp [evRes, getT, retV, Try.f16,  disV]
  by_cases hcb : chkT b = 0
  case neg =>
    rw [if_pos (.inr hcb)]
    obtain ⟨na, ca⟩ := a
    obtain ⟨nb, cb⟩ := b
    refine PC.walk tok mixed cfgW Try.func16 rfl Try.call16 (by simp [belAll_append, bel_ints, bel_bools, bel_rows, bel_slI, bel_slR, bel_slB, bel_encT, bel_pthV, bel_flatWt, bel_encWt, bel_disV]) (by first | rfl | simp [belAll_append, bel_ints, bel_bools, bel_rows, bel_slI, bel_slR, bel_slB, bel_encT, bel_pthV, bel_flatWt, bel_encWt, bel_disV]) ?_; simp (maxSteps := 2000000) -implicitDefEqProofs +contextual (disch := first | assumption | omega | decide +kernel) only [push_cast, ↓capI, br2_true, br2_false, frk_tt, frk_tf, frk_f, frkD_tt, frkD_tf, frkD_f, pk2_true, pk2_false, imp_true, seval, Nat.reduceLeDiff, Nat.reduceEqDiff, reduceCtorEq, ↓reduceIte, cfg0, cfgW, ones_ints, ones_bools, getV_map, getV_mapO, List.length_map, Nat.mul_one, slI, slR, slB, encT, encWt, Try.ntmps16]
    refine callO.pc h20a ?_
    simp (maxSteps := 2000000) -implicitDefEqProofs +contextual (disch := first | assumption | omega | decide +kernel) only [push_cast, ↓capI, br2_true, br2_false, frk_tt, frk_tf, frk_f, frkD_tt, frkD_tf, frkD_f, pk2_true, pk2_false, imp_true, seval, Nat.reduceLeDiff, Nat.reduceEqDiff, reduceCtorEq, ↓reduceIte, cfg0, cfgW, ones_ints, ones_bools, getV_map, getV_mapO, List.length_map, Nat.mul_one, slI, slR, slB, encT, encWt, hca]
    refine callO.pc h20b ?_
    simp (maxSteps := 2000000) -implicitDefEqProofs +contextual (disch := first | assumption | omega | decide +kernel) only [push_cast, ↓capI, br2_true, br2_false, frk_tt, frk_tf, frk_f, frkD_tt, frkD_tf, frkD_f, pk2_true, pk2_false, imp_true, seval, Nat.reduceLeDiff, Nat.reduceEqDiff, reduceCtorEq, ↓reduceIte, cfg0, cfgW, ones_ints, ones_bools, getV_map, getV_mapO, List.length_map, Nat.mul_one, slI, slR, slB, encT, encWt, hcb]
    refine endK.ret ?_ (by first | rfl | simp [belAll_append, bel_ints, bel_bools, bel_rows, bel_slI, bel_slR, bel_slB, bel_encT, bel_pthV, bel_flatWt, bel_encWt, bel_disV]); simp [evRes, getT, retV, Try.f16,  disV]
  rw [if_neg (by omega)]
  obtain ⟨hta, ha64⟩ := okT_of hca
  obtain ⟨htb, hb64⟩ := okT_of hcb
  have hsa := fun q s (h : q < (a.next.length : Int)) => pcSuc 35 (.inr rfl) (t := a) (q := q) (s := s) h
  have hsb := fun q s (h : q < (b.next.length : Int)) => pcSuc 35 (.inr rfl) (t := b) (q := q) (s := s) h
  have hqa := fun q (h : q < (a.acc.length : Int)) => pc34 (t := a) (q := q) h
  have hqb := fun q (h : q < (b.acc.length : Int)) => pc34 (t := b) (q := q) h
  have hok := fun i => dst_ok (sk := true) (M := max (colsT a) (colsT b)) hta htb i
  have hmp := fun i => dstw_map a b (max (colsT a) (colsT b)) i
  have hch := fun i => dstw_ch a b (max (colsT a) (colsT b)) i
  have hca1 := hta.cols
  have hcb1 := htb.cols
  have haa := hta.accs
  have hbb := htb.accs
  have hpa := hta.pos
  have hpb := htb.pos
  rw [disR]
  have hM : max (colsT a) (colsT b) ≤ 16 := by simp only [colsT]; omega
  have hMd : ((max (colsT a) (colsT b) : Nat) : Int) = max (colsT a : Int) (colsT b : Int) := by omega
  have hcola : colsT a = (a.next[0]'hpa).length := headD_get hpa
  have hcolb : colsT b = (b.next[0]'hpb).length := headD_get hpb
  generalize max (colsT a) (colsT b) = M at hM hMd hok hmp hch ⊢
  obtain ⟨na, ca⟩ := a
  obtain ⟨nb, cb⟩ := b
  simp only at haa hbb hpa hpb ha64 hb64 hsa hsb hqa hqb hcola hcolb
  have hMx : (if na[0].length < nb[0].length then (nb[0].length : Int) else (na[0].length : Int)) = (M : Int) := by
    rw [hMd, hcola, hcolb]
    split <;> omega
  refine PC.walk tok mixed cfgW Try.func16 rfl Try.call16 (by simp [belAll_append, bel_ints, bel_bools, bel_rows, bel_slI, bel_slR, bel_slB, bel_encT, bel_pthV, bel_flatWt, bel_encWt, bel_disV]) (by first | rfl | simp [belAll_append, bel_ints, bel_bools, bel_rows, bel_slI, bel_slR, bel_slB, bel_encT, bel_pthV, bel_flatWt, bel_encWt, bel_disV]) ?_; simp (maxSteps := 2000000) -implicitDefEqProofs +contextual (disch := first | assumption | omega | decide +kernel) only [push_cast, ↓capI, br2_true, br2_false, frk_tt, frk_tf, frk_f, frkD_tt, frkD_tf, frkD_f, pk2_true, pk2_false, imp_true, seval, Nat.reduceLeDiff, Nat.reduceEqDiff, reduceCtorEq, ↓reduceIte, cfg0, cfgW, ones_ints, ones_bools, getV_map, getV_mapO, List.length_map, Nat.mul_one, slI, slR, slB, encT, encWt, Try.ntmps16]
  refine callO.pc h20a ?_
  simp (maxSteps := 2000000) -implicitDefEqProofs +contextual (disch := first | assumption | omega | decide +kernel) only [push_cast, ↓capI, br2_true, br2_false, frk_tt, frk_tf, frk_f, frkD_tt, frkD_tf, frkD_f, pk2_true, pk2_false, imp_true, seval, Nat.reduceLeDiff, Nat.reduceEqDiff, reduceCtorEq, ↓reduceIte, cfg0, cfgW, ones_ints, ones_bools, getV_map, getV_mapO, List.length_map, Nat.mul_one, slI, slR, slB, encT, encWt, hca]
  refine callO.pc h20b ?_
  simp (maxSteps := 2000000) -implicitDefEqProofs +contextual (disch := first | assumption | omega | decide +kernel) only [push_cast, ↓capI, br2_true, br2_false, frk_tt, frk_tf, frk_f, frkD_tt, frkD_tf, frkD_f, pk2_true, pk2_false, imp_true, seval, Nat.reduceLeDiff, Nat.reduceEqDiff, reduceCtorEq, ↓reduceIte, cfg0, cfgW, ones_ints, ones_bools, getV_map, getV_mapO, List.length_map, Nat.mul_one, slI, slR, slB, encT, encWt, hcb]
  refine T.lp tok mixed cfgW (fun ((i : Nat)) => dd 2 (kp 2 (dd 2 (sv (.buf 2 ((dstw ⟨na, ca⟩ ⟨nb, cb⟩ M i).length - 1) 0 (dstw ⟨na, ca⟩ ⟨nb, cb⟩ M i).length 4) (sv (.int .i64 (i : Int)) (dd 126 (nl))))))) (fun H0 ((i : Nat)) => [.cells 0 (encT ⟨na, ca⟩), .cells 0 (encT ⟨nb, cb⟩), .cells ((dstw ⟨na, ca⟩ ⟨nb, cb⟩ M i).length - 1) ((dstw ⟨na, ca⟩ ⟨nb, cb⟩ M i).flatMap encWt)]) (fun ((i : Nat)) => i ≤ (dstw ⟨na, ca⟩ ⟨nb, cb⟩ M i).length ∧ dF true ⟨na, ca⟩ ⟨nb, cb⟩ M (disN - i) i = dF true ⟨na, ca⟩ ⟨nb, cb⟩ M disN 0) (fun ((i : Nat)) => disN - i) (0) ?_ ?_ ?_
  · exact ⟨Nat.zero_le _, rfl⟩
  · exact Gn.canon (J := []) (by simp [List.append_nil, encT, slR, slB, slI, dNw0, dstw0, encWt]) (by simp [wk, dNw0, dstw0, encWt, vt0, putT, kp, dd, sv, nl]) (by simp [List.length_append]) (by simp [belAll_append, bel_ints, bel_bools, bel_rows, bel_slI, bel_slR, bel_slB, bel_encT, bel_pthV, bel_flatWt, bel_encWt, bel_disV, kp, dd, sv, nl]) (by simp [belAll_append, bel_ints, bel_bools, bel_rows, bel_slI, bel_slR, bel_slB, bel_encT, bel_pthV, bel_flatWt, bel_encWt, bel_disV])
  · intro i hs
    obtain ⟨hi, hs⟩ := hs
    have hoki := hok i
    have hmpi := hmp i
    have hchi := hch i
    have hnext : dstw ⟨na, ca⟩ ⟨nb, cb⟩ M (i + 1) = match (dstw ⟨na, ca⟩ ⟨nb, cb⟩ M i)[i]? with | some x => dNw ⟨na, ca⟩ ⟨nb, cb⟩ i x.v (dstw ⟨na, ca⟩ ⟨nb, cb⟩ M i) M | none => dstw ⟨na, ca⟩ ⟨nb, cb⟩ M i := rfl
    rw [← hmpi] at hoki
    generalize hD : dstw ⟨na, ca⟩ ⟨nb, cb⟩ M i = L at hoki hmpi hchi hnext hi
    simp only [hD]
    have hL := hoki.len ha64 hb64
    rw [List.length_map] at hL
    have hdf : disN - i = (disN - i - 1) + 1 := by rw [disN]; omega
    rw [hdf, dF, ← hmpi, List.getElem?_map] at hs
    by_cases hlt : i < L.length
    · have hv0 : L[i]? = some L[i] := List.getElem?_eq_getElem hlt
      have hvr := hoki.rng L[i].v (List.mem_map_of_mem (List.getElem_mem hlt))
      rw [hv0] at hs hnext
      simp only [Option.map_some] at hs hnext
      have hpln := path_len true ⟨na, ca⟩ ⟨nb, cb⟩ M i L[i].v (by rw [← hmpi]; exact List.mem_map_of_mem (List.getElem_mem hlt))
      have hvok := fun s => dN_ok (sk := true) hta htb hvr hoki s
      have hvm := fun s => dNw_map ⟨na, ca⟩ ⟨nb, cb⟩ i L[i].v L s
      have hvp := fun s => dNw_pre ⟨na, ca⟩ ⟨nb, cb⟩ i L[i].v L s
      have hgv : getV (L.flatMap encWt) (i * 4) 4 = encWt L[i] := get_flat (enc := encWt) lenWt L i hlt
      have hfl : (L.flatMap encWt).length = L.length * 4 := len_flat (enc := encWt) lenWt L
      generalize hX : L[i] = x at hs hnext hvr hvok hgv hvm hvp hpln
      obtain ⟨⟨p, q, path⟩, fr, sw⟩ := x
      simp only at hvr hs hnext hvok hvm hvp hpln
      have hcp := hqa p (by omega)
      have hcq := hqb q (by omega)
      rw [dif] at hs
      simp only at hs
      by_cases hd : accq ⟨na, ca⟩ p = accq ⟨nb, cb⟩ q
      · rw [if_neg (by rw [hd]; simp)] at hs
        rw [hd] at hcp
        generalize accq ⟨nb, cb⟩ q = bv at hcp hcq
        simp (maxSteps := 2000000) -implicitDefEqProofs +contextual (disch := first | assumption | omega | decide +kernel) only [push_cast, ↓capI, br2_true, br2_false, frk_tt, frk_tf, frk_f, frkD_tt, frkD_tf, frkD_f, pk2_true, pk2_false, imp_true, seval, Nat.reduceLeDiff, Nat.reduceEqDiff, reduceCtorEq, ↓reduceIte, cfg0, cfgW, ones_ints, ones_bools, getV_map, getV_mapO, List.length_map, Nat.mul_one, slI, slR, slB, encT, encWt, hlt, hgv, hfl]
        refine callG.pc1 hcp ?_
        simp (maxSteps := 2000000) -implicitDefEqProofs +contextual (disch := first | assumption | omega | decide +kernel) only [push_cast, ↓capI, br2_true, br2_false, frk_tt, frk_tf, frk_f, frkD_tt, frkD_tf, frkD_f, pk2_true, pk2_false, imp_true, seval, Nat.reduceLeDiff, Nat.reduceEqDiff, reduceCtorEq, ↓reduceIte, cfg0, cfgW, ones_ints, ones_bools, getV_map, getV_mapO, List.length_map, Nat.mul_one, slI, slR, slB, encT, encWt]
        refine callG.pc1 hcq ?_
        simp (maxSteps := 2000000) -implicitDefEqProofs +contextual (disch := first | assumption | omega | decide +kernel) only [push_cast, ↓capI, br2_true, br2_false, frk_tt, frk_tf, frk_f, frkD_tt, frkD_tf, frkD_f, pk2_true, pk2_false, imp_true, seval, Nat.reduceLeDiff, Nat.reduceEqDiff, reduceCtorEq, ↓reduceIte, cfg0, cfgW, ones_ints, ones_bools, getV_map, getV_mapO, List.length_map, Nat.mul_one, slI, slR, slB, encT, encWt]
        refine T.lp tok mixed cfgW (fun ((s : Nat)) => dd 2 (kp 2 (dd 2 (sv (.buf 2 ((dNw ⟨na, ca⟩ ⟨nb, cb⟩ i ⟨p, q, path⟩ L s).length - 1) 0 (dNw ⟨na, ca⟩ ⟨nb, cb⟩ i ⟨p, q, path⟩ L s).length 4) (kp 2 (dd 2 (sv (.int .i64 (s : Int)) (dd 122 (nl))))))))) (fun H0 ((s : Nat)) => [.cells 0 (encT ⟨na, ca⟩), .cells 0 (encT ⟨nb, cb⟩), .cells ((dNw ⟨na, ca⟩ ⟨nb, cb⟩ i ⟨p, q, path⟩ L s).length - 1) ((dNw ⟨na, ca⟩ ⟨nb, cb⟩ i ⟨p, q, path⟩ L s).flatMap encWt), .cells 0 (encWt ⟨⟨p, q, path⟩, fr, sw⟩)]) (fun ((s : Nat)) => s ≤ M) (fun ((s : Nat)) => M - s) (0) ?_ ?_ ?_
        · exact Nat.zero_le _
        · exact Gn.canon (J := []) (by simp [List.append_nil, encT, slR, slB, slI, dNw0, dstw0, encWt]) (by simp [wk, dNw0, dstw0, encWt, vt0, putT, kp, dd, sv, nl]) (by simp [List.length_append]) (by simp [belAll_append, bel_ints, bel_bools, bel_rows, bel_slI, bel_slR, bel_slB, bel_encT, bel_pthV, bel_flatWt, bel_encWt, bel_disV, kp, dd, sv, nl]) (by simp [belAll_append, bel_ints, bel_bools, bel_rows, bel_slI, bel_slR, bel_slB, bel_encT, bel_pthV, bel_flatWt, bel_encWt, bel_disV])
        · intro s hsM
          have hsM0 : s ≤ M := hsM
          obtain ⟨r2, hr2⟩ := hvp s
          have hokl := hvok s
          rw [← hvm s] at hokl
          have hnx : dNw ⟨na, ca⟩ ⟨nb, cb⟩ i ⟨p, q, path⟩ L (s + 1) = dIw ⟨na, ca⟩ ⟨nb, cb⟩ i ⟨p, q, path⟩ s (dNw ⟨na, ca⟩ ⟨nb, cb⟩ i ⟨p, q, path⟩ L s) := rfl
          have hlast : s = M → dNw ⟨na, ca⟩ ⟨nb, cb⟩ i ⟨p, q, path⟩ L M = dNw ⟨na, ca⟩ ⟨nb, cb⟩ i ⟨p, q, path⟩ L s := fun e => by rw [e]
          generalize hD2 : dNw ⟨na, ca⟩ ⟨nb, cb⟩ i ⟨p, q, path⟩ L s = l at hokl hnx hlast hr2
          simp only [hD2]
          have hil : i + 1 ≤ l.length := by rw [hr2, List.length_append]; omega
          have hl2 := hokl.len ha64 hb64
          rw [List.length_map] at hl2
          have hll : (l.flatMap encWt).length = l.length * 4 := len_flat (enc := encWt) lenWt l
          by_cases hlM : s < M
          · have h1 := hsa p s (by omega)
            have h2 := hsb q s (by omega)
            rw [dIw] at hnx
            simp only at hnx
            generalize suc ⟨na, ca⟩ p s = P at h1 hnx
            generalize suc ⟨nb, cb⟩ q s = Q at h2 hnx
            have hdone : ∀ b : Bool, seen true P Q (l.map (·.v)) = b → (b = true → dNw ⟨na, ca⟩ ⟨nb, cb⟩ i ⟨p, q, path⟩ L (s + 1) = l) ∧ (b = false → dNw ⟨na, ca⟩ ⟨nb, cb⟩ i ⟨p, q, path⟩ L (s + 1) = l ++ [⟨⟨P, Q, path ++ [(s : Int)]⟩, i, s⟩]) := fun b hb => by
              rw [hb] at hnx
              cases b with
              | true => exact ⟨fun _ => by rw [hnx, if_pos rfl], fun h => absurd h (by decide)⟩
              | false => exact ⟨fun h => absurd h (by decide), fun _ => by rw [hnx, if_neg (by decide)]⟩
            rw [seen, Bool.true_and] at hdone
            by_cases hP : P < 0
            · by_cases hQ : Q < 0
              · rw [decide_eq_true hP, decide_eq_true hQ, Bool.and_self] at hdone
                simp (maxSteps := 2000000) -implicitDefEqProofs +contextual (disch := first | assumption | omega | decide +kernel) only [push_cast, ↓capI, br2_true, br2_false, frk_tt, frk_tf, frk_f, frkD_tt, frkD_tf, frkD_f, pk2_true, pk2_false, imp_true, seval, Nat.reduceLeDiff, Nat.reduceEqDiff, reduceCtorEq, ↓reduceIte, cfg0, cfgW, ones_ints, ones_bools, getV_map, getV_mapO, List.length_map, Nat.mul_one, slI, slR, slB, encT, encWt, hMx, hlM]
                refine callG.pc1 h1 ?_
                simp (maxSteps := 2000000) -implicitDefEqProofs +contextual (disch := first | assumption | omega | decide +kernel) only [push_cast, ↓capI, br2_true, br2_false, frk_tt, frk_tf, frk_f, frkD_tt, frkD_tf, frkD_f, pk2_true, pk2_false, imp_true, seval, Nat.reduceLeDiff, Nat.reduceEqDiff, reduceCtorEq, ↓reduceIte, cfg0, cfgW, ones_ints, ones_bools, getV_map, getV_mapO, List.length_map, Nat.mul_one, slI, slR, slB, encT, encWt]
                refine callG.pc1 h2 ?_
                simp (maxSteps := 2000000) -implicitDefEqProofs +contextual (disch := first | assumption | omega | decide +kernel) only [push_cast, ↓capI, br2_true, br2_false, frk_tt, frk_tf, frk_f, frkD_tt, frkD_tf, frkD_f, pk2_true, pk2_false, imp_true, seval, Nat.reduceLeDiff, Nat.reduceEqDiff, reduceCtorEq, ↓reduceIte, cfg0, cfgW, ones_ints, ones_bools, getV_map, getV_mapO, List.length_map, Nat.mul_one, slI, slR, slB, encT, encWt, hP, hQ]
                refine T.lp tok mixed cfgW (fun ((k : Nat)) => dd 2 (kp 2 (dd 2 (kp 3 (dd 2 (kp 2 (sv (.bool (vt true P Q l k)) (sv (.int .i64 (k : Int)) (dd 119 (nl)))))))))) (fun H0 ((k : Nat)) => H0) (fun ((k : Nat)) => k ≤ l.length) (fun ((k : Nat)) => l.length - k) (0) ?_ ?_ ?_
                · exact Nat.zero_le _
                · exact Gn.canon (J := _) (by first | rfl | (simp [List.append_nil, encT, slR, slB, slI, dNw0, dstw0, encWt]; done) | (simp [List.append_nil, encT, slR, slB, slI, dNw0, dstw0, encWt]; rfl)) (by simp [wk, dNw0, dstw0, encWt, vt0, putT, kp, dd, sv, nl]) (by simp [List.length_append]) (by simp [belAll_append, bel_ints, bel_bools, bel_rows, bel_slI, bel_slR, bel_slB, bel_encT, bel_pthV, bel_flatWt, bel_encWt, bel_disV, kp, dd, sv, nl]) (by simp [belAll_append, bel_ints, bel_bools, bel_rows, bel_slI, bel_slR, bel_slB, bel_encT, bel_pthV, bel_flatWt, bel_encWt, bel_disV])
                · intro k hk
                  have hk0 : k ≤ l.length := hk
                  by_cases hkl : k < l.length
                  · have hvs := fun c0 => vt_succ (c0 := c0) (p := P) (q := Q) hkl
                    have hg0 : getV (l.flatMap encWt) (k * 4) 1 = [.int .i64 l[k].v.p] := get_Wt (l := l) (o := 0) hkl (by omega)
                    have hg1 : getV (l.flatMap encWt) (k * 4 + 1) 1 = [.int .i64 l[k].v.q] := get_Wt (l := l) hkl (by omega)
                    have hb0 : k * 4 + 1 ≤ l.length * 4 := by omega
                    have hb1 : k * 4 + 1 + 1 ≤ l.length * 4 := by omega
                    cases hsn : vt true P Q l k with
                    | true =>
                      have hsn2 : vt true P Q l (k + 1) = true := by rw [hvs, hsn, Bool.true_or]
                      simp (maxSteps := 2000000) -implicitDefEqProofs +contextual (disch := first | assumption | omega | decide +kernel) only [push_cast, ↓capI, br2_true, br2_false, frk_tt, frk_tf, frk_f, frkD_tt, frkD_tf, frkD_f, pk2_true, pk2_false, imp_true, seval, Nat.reduceLeDiff, Nat.reduceEqDiff, reduceCtorEq, ↓reduceIte, cfg0, cfgW, ones_ints, ones_bools, getV_map, getV_mapO, List.length_map, Nat.mul_one, slI, slR, slB, encT, encWt, hkl, hll, hsn]
                      refine ⟨(k + 1), by omega, by (try simp only); omega, ?_⟩; exact Gn.canon (by first | rfl | (simp [List.append_nil, encT, slR, slB, slI, dNw0, dstw0, encWt, hsn2]; rfl)) (by simp [wk, dNw0, dstw0, encWt, vt0, hsn2]) (by simp [List.length_append]) (by simp [belAll_append, bel_ints, bel_bools, bel_rows, bel_slI, bel_slR, bel_slB, bel_encT, bel_pthV, bel_flatWt, bel_encWt, bel_disV]) (by simp [belAll_append, bel_ints, bel_bools, bel_rows, bel_slI, bel_slR, bel_slB, bel_encT, bel_pthV, bel_flatWt, bel_encWt, bel_disV])
                    | false =>
                      have hsn2 : vt true P Q l (k + 1) = (decide (l[k].v.p = P) && decide (l[k].v.q = Q)) := by rw [hvs, hsn, Bool.false_or]
                      by_cases hA : l[k].v.p = P
                      · by_cases hB : l[k].v.q = Q
                        · rw [decide_eq_true hA, decide_eq_true hB, Bool.and_self] at hsn2
                          simp (maxSteps := 2000000) -implicitDefEqProofs +contextual (disch := first | assumption | omega | decide +kernel) only [push_cast, ↓capI, br2_true, br2_false, frk_tt, frk_tf, frk_f, frkD_tt, frkD_tf, frkD_f, pk2_true, pk2_false, imp_true, seval, Nat.reduceLeDiff, Nat.reduceEqDiff, reduceCtorEq, ↓reduceIte, cfg0, cfgW, ones_ints, ones_bools, getV_map, getV_mapO, List.length_map, Nat.mul_one, slI, slR, slB, encT, encWt, hkl, hll, hsn, hg0, hg1, hb0, hb1, hA, hB]
                          refine ⟨(k + 1), by omega, by (try simp only); omega, ?_⟩; exact Gn.canon (by first | rfl | (simp [List.append_nil, encT, slR, slB, slI, dNw0, dstw0, encWt, hsn2]; rfl)) (by simp [wk, dNw0, dstw0, encWt, vt0, hsn2]) (by simp [List.length_append]) (by simp [belAll_append, bel_ints, bel_bools, bel_rows, bel_slI, bel_slR, bel_slB, bel_encT, bel_pthV, bel_flatWt, bel_encWt, bel_disV]) (by simp [belAll_append, bel_ints, bel_bools, bel_rows, bel_slI, bel_slR, bel_slB, bel_encT, bel_pthV, bel_flatWt, bel_encWt, bel_disV])
                        · rw [decide_eq_true hA, decide_eq_false hB, Bool.and_false] at hsn2
                          simp (maxSteps := 2000000) -implicitDefEqProofs +contextual (disch := first | assumption | omega | decide +kernel) only [push_cast, ↓capI, br2_true, br2_false, frk_tt, frk_tf, frk_f, frkD_tt, frkD_tf, frkD_f, pk2_true, pk2_false, imp_true, seval, Nat.reduceLeDiff, Nat.reduceEqDiff, reduceCtorEq, ↓reduceIte, cfg0, cfgW, ones_ints, ones_bools, getV_map, getV_mapO, List.length_map, Nat.mul_one, slI, slR, slB, encT, encWt, hkl, hll, hsn, hg0, hg1, hb0, hb1, hA, hB]
                          refine ⟨(k + 1), by omega, by (try simp only); omega, ?_⟩; exact Gn.canon (by first | rfl | (simp [List.append_nil, encT, slR, slB, slI, dNw0, dstw0, encWt, hsn2]; rfl)) (by simp [wk, dNw0, dstw0, encWt, vt0, hsn2]) (by simp [List.length_append]) (by simp [belAll_append, bel_ints, bel_bools, bel_rows, bel_slI, bel_slR, bel_slB, bel_encT, bel_pthV, bel_flatWt, bel_encWt, bel_disV]) (by simp [belAll_append, bel_ints, bel_bools, bel_rows, bel_slI, bel_slR, bel_slB, bel_encT, bel_pthV, bel_flatWt, bel_encWt, bel_disV])
                      · rw [decide_eq_false hA, Bool.false_and] at hsn2
                        simp (maxSteps := 2000000) -implicitDefEqProofs +contextual (disch := first | assumption | omega | decide +kernel) only [push_cast, ↓capI, br2_true, br2_false, frk_tt, frk_tf, frk_f, frkD_tt, frkD_tf, frkD_f, pk2_true, pk2_false, imp_true, seval, Nat.reduceLeDiff, Nat.reduceEqDiff, reduceCtorEq, ↓reduceIte, cfg0, cfgW, ones_ints, ones_bools, getV_map, getV_mapO, List.length_map, Nat.mul_one, slI, slR, slB, encT, encWt, hkl, hll, hsn, hg0, hg1, hb0, hb1, hA]
                        refine ⟨(k + 1), by omega, by (try simp only); omega, ?_⟩; exact Gn.canon (by first | rfl | (simp [List.append_nil, encT, slR, slB, slI, dNw0, dstw0, encWt, hsn2]; rfl)) (by simp [wk, dNw0, dstw0, encWt, vt0, hsn2]) (by simp [List.length_append]) (by simp [belAll_append, bel_ints, bel_bools, bel_rows, bel_slI, bel_slR, bel_slB, bel_encT, bel_pthV, bel_flatWt, bel_encWt, bel_disV]) (by simp [belAll_append, bel_ints, bel_bools, bel_rows, bel_slI, bel_slR, bel_slB, bel_encT, bel_pthV, bel_flatWt, bel_encWt, bel_disV])
                  · have hkn : k = l.length := by omega
                    subst hkn
                    have hva := vt_all (c0 := true) (p := P) (q := Q) (l := l)
                    cases hsn : vt true P Q l l.length with
                    | true =>
                      have hfin := (hdone true (by rw [← hva]; exact hsn)).1 rfl
                      simp (maxSteps := 2000000) -implicitDefEqProofs +contextual (disch := first | assumption | omega | decide +kernel) only [push_cast, ↓capI, br2_true, br2_false, frk_tt, frk_tf, frk_f, frkD_tt, frkD_tf, frkD_f, pk2_true, pk2_false, imp_true, seval, Nat.reduceLeDiff, Nat.reduceEqDiff, reduceCtorEq, ↓reduceIte, cfg0, cfgW, ones_ints, ones_bools, getV_map, getV_mapO, List.length_map, Nat.mul_one, slI, slR, slB, encT, encWt, hkl, hsn]
                      refine ⟨(s + 1), by omega, by (try simp only); omega, ?_⟩; exact Gn.canon (by first | rfl | (simp [List.append_nil, encT, slR, slB, slI, dNw0, dstw0, encWt, hfin]; rfl)) (by simp [wk, dNw0, dstw0, encWt, vt0, hfin]) (by simp [List.length_append]) (by simp [belAll_append, bel_ints, bel_bools, bel_rows, bel_slI, bel_slR, bel_slB, bel_encT, bel_pthV, bel_flatWt, bel_encWt, bel_disV]) (by simp [belAll_append, bel_ints, bel_bools, bel_rows, bel_slI, bel_slR, bel_slB, bel_encT, bel_pthV, bel_flatWt, bel_encWt, bel_disV])
                    | false =>
                      have hfin := (hdone false (by rw [← hva]; exact hsn)).2 rfl
                      have hap : l.length - 1 + 1 = l.length := by omega
                      simp (maxSteps := 2000000) -implicitDefEqProofs +contextual (disch := first | assumption | omega | decide +kernel) only [push_cast, ↓capI, br2_true, br2_false, frk_tt, frk_tf, frk_f, frkD_tt, frkD_tf, frkD_f, pk2_true, pk2_false, imp_true, seval, Nat.reduceLeDiff, Nat.reduceEqDiff, reduceCtorEq, ↓reduceIte, cfg0, cfgW, ones_ints, ones_bools, getV_map, getV_mapO, List.length_map, Nat.mul_one, slI, slR, slB, encT, encWt, hkl, hll, hap, hsn]
                      refine ⟨(s + 1), by omega, by (try simp only); omega, ?_⟩; exact Gn.canon (by first | rfl | (simp [List.append_nil, encT, slR, slB, slI, dNw0, dstw0, encWt, hfin, hap]; rfl)) (by simp [wk, dNw0, dstw0, encWt, vt0, hfin, hap]) (by simp [List.length_append]) (by simp [belAll_append, bel_ints, bel_bools, bel_rows, bel_slI, bel_slR, bel_slB, bel_encT, bel_pthV, bel_flatWt, bel_encWt, bel_disV]) (by simp [belAll_append, bel_ints, bel_bools, bel_rows, bel_slI, bel_slR, bel_slB, bel_encT, bel_pthV, bel_flatWt, bel_encWt, bel_disV])
              · rw [decide_eq_true hP, decide_eq_false hQ, Bool.and_false] at hdone
                simp (maxSteps := 2000000) -implicitDefEqProofs +contextual (disch := first | assumption | omega | decide +kernel) only [push_cast, ↓capI, br2_true, br2_false, frk_tt, frk_tf, frk_f, frkD_tt, frkD_tf, frkD_f, pk2_true, pk2_false, imp_true, seval, Nat.reduceLeDiff, Nat.reduceEqDiff, reduceCtorEq, ↓reduceIte, cfg0, cfgW, ones_ints, ones_bools, getV_map, getV_mapO, List.length_map, Nat.mul_one, slI, slR, slB, encT, encWt, hMx, hlM]
                refine callG.pc1 h1 ?_
                simp (maxSteps := 2000000) -implicitDefEqProofs +contextual (disch := first | assumption | omega | decide +kernel) only [push_cast, ↓capI, br2_true, br2_false, frk_tt, frk_tf, frk_f, frkD_tt, frkD_tf, frkD_f, pk2_true, pk2_false, imp_true, seval, Nat.reduceLeDiff, Nat.reduceEqDiff, reduceCtorEq, ↓reduceIte, cfg0, cfgW, ones_ints, ones_bools, getV_map, getV_mapO, List.length_map, Nat.mul_one, slI, slR, slB, encT, encWt]
                refine callG.pc1 h2 ?_
                simp (maxSteps := 2000000) -implicitDefEqProofs +contextual (disch := first | assumption | omega | decide +kernel) only [push_cast, ↓capI, br2_true, br2_false, frk_tt, frk_tf, frk_f, frkD_tt, frkD_tf, frkD_f, pk2_true, pk2_false, imp_true, seval, Nat.reduceLeDiff, Nat.reduceEqDiff, reduceCtorEq, ↓reduceIte, cfg0, cfgW, ones_ints, ones_bools, getV_map, getV_mapO, List.length_map, Nat.mul_one, slI, slR, slB, encT, encWt, hP, hQ]
                refine T.lp tok mixed cfgW (fun ((k : Nat)) => dd 2 (kp 2 (dd 2 (kp 3 (dd 2 (kp 2 (sv (.bool (vt false P Q l k)) (sv (.int .i64 (k : Int)) (dd 119 (nl)))))))))) (fun H0 ((k : Nat)) => H0) (fun ((k : Nat)) => k ≤ l.length) (fun ((k : Nat)) => l.length - k) (0) ?_ ?_ ?_
                · exact Nat.zero_le _
                · exact Gn.canon (J := _) (by first | rfl | (simp [List.append_nil, encT, slR, slB, slI, dNw0, dstw0, encWt]; done) | (simp [List.append_nil, encT, slR, slB, slI, dNw0, dstw0, encWt]; rfl)) (by simp [wk, dNw0, dstw0, encWt, vt0, putT, kp, dd, sv, nl]) (by simp [List.length_append]) (by simp [belAll_append, bel_ints, bel_bools, bel_rows, bel_slI, bel_slR, bel_slB, bel_encT, bel_pthV, bel_flatWt, bel_encWt, bel_disV, kp, dd, sv, nl]) (by simp [belAll_append, bel_ints, bel_bools, bel_rows, bel_slI, bel_slR, bel_slB, bel_encT, bel_pthV, bel_flatWt, bel_encWt, bel_disV])
                · intro k hk
                  have hk0 : k ≤ l.length := hk
                  by_cases hkl : k < l.length
                  · have hvs := fun c0 => vt_succ (c0 := c0) (p := P) (q := Q) hkl
                    have hg0 : getV (l.flatMap encWt) (k * 4) 1 = [.int .i64 l[k].v.p] := get_Wt (l := l) (o := 0) hkl (by omega)
                    have hg1 : getV (l.flatMap encWt) (k * 4 + 1) 1 = [.int .i64 l[k].v.q] := get_Wt (l := l) hkl (by omega)
                    have hb0 : k * 4 + 1 ≤ l.length * 4 := by omega
                    have hb1 : k * 4 + 1 + 1 ≤ l.length * 4 := by omega
                    cases hsn : vt false P Q l k with
                    | true =>
                      have hsn2 : vt false P Q l (k + 1) = true := by rw [hvs, hsn, Bool.true_or]
                      simp (maxSteps := 2000000) -implicitDefEqProofs +contextual (disch := first | assumption | omega | decide +kernel) only [push_cast, ↓capI, br2_true, br2_false, frk_tt, frk_tf, frk_f, frkD_tt, frkD_tf, frkD_f, pk2_true, pk2_false, imp_true, seval, Nat.reduceLeDiff, Nat.reduceEqDiff, reduceCtorEq, ↓reduceIte, cfg0, cfgW, ones_ints, ones_bools, getV_map, getV_mapO, List.length_map, Nat.mul_one, slI, slR, slB, encT, encWt, hkl, hll, hsn]
                      refine ⟨(k + 1), by omega, by (try simp only); omega, ?_⟩; exact Gn.canon (by first | rfl | (simp [List.append_nil, encT, slR, slB, slI, dNw0, dstw0, encWt, hsn2]; rfl)) (by simp [wk, dNw0, dstw0, encWt, vt0, hsn2]) (by simp [List.length_append]) (by simp [belAll_append, bel_ints, bel_bools, bel_rows, bel_slI, bel_slR, bel_slB, bel_encT, bel_pthV, bel_flatWt, bel_encWt, bel_disV]) (by simp [belAll_append, bel_ints, bel_bools, bel_rows, bel_slI, bel_slR, bel_slB, bel_encT, bel_pthV, bel_flatWt, bel_encWt, bel_disV])
                    | false =>
                      have hsn2 : vt false P Q l (k + 1) = (decide (l[k].v.p = P) && decide (l[k].v.q = Q)) := by rw [hvs, hsn, Bool.false_or]
                      by_cases hA : l[k].v.p = P
                      · by_cases hB : l[k].v.q = Q
                        · rw [decide_eq_true hA, decide_eq_true hB, Bool.and_self] at hsn2
                          simp (maxSteps := 2000000) -implicitDefEqProofs +contextual (disch := first | assumption | omega | decide +kernel) only [push_cast, ↓capI, br2_true, br2_false, frk_tt, frk_tf, frk_f, frkD_tt, frkD_tf, frkD_f, pk2_true, pk2_false, imp_true, seval, Nat.reduceLeDiff, Nat.reduceEqDiff, reduceCtorEq, ↓reduceIte, cfg0, cfgW, ones_ints, ones_bools, getV_map, getV_mapO, List.length_map, Nat.mul_one, slI, slR, slB, encT, encWt, hkl, hll, hsn, hg0, hg1, hb0, hb1, hA, hB]
                          refine ⟨(k + 1), by omega, by (try simp only); omega, ?_⟩; exact Gn.canon (by first | rfl | (simp [List.append_nil, encT, slR, slB, slI, dNw0, dstw0, encWt, hsn2]; rfl)) (by simp [wk, dNw0, dstw0, encWt, vt0, hsn2]) (by simp [List.length_append]) (by simp [belAll_append, bel_ints, bel_bools, bel_rows, bel_slI, bel_slR, bel_slB, bel_encT, bel_pthV, bel_flatWt, bel_encWt, bel_disV]) (by simp [belAll_append, bel_ints, bel_bools, bel_rows, bel_slI, bel_slR, bel_slB, bel_encT, bel_pthV, bel_flatWt, bel_encWt, bel_disV])
                        · rw [decide_eq_true hA, decide_eq_false hB, Bool.and_false] at hsn2
                          simp (maxSteps := 2000000) -implicitDefEqProofs +contextual (disch := first | assumption | omega | decide +kernel) only [push_cast, ↓capI, br2_true, br2_false, frk_tt, frk_tf, frk_f, frkD_tt, frkD_tf, frkD_f, pk2_true, pk2_false, imp_true, seval, Nat.reduceLeDiff, Nat.reduceEqDiff, reduceCtorEq, ↓reduceIte, cfg0, cfgW, ones_ints, ones_bools, getV_map, getV_mapO, List.length_map, Nat.mul_one, slI, slR, slB, encT, encWt, hkl, hll, hsn, hg0, hg1, hb0, hb1, hA, hB]
                          refine ⟨(k + 1), by omega, by (try simp only); omega, ?_⟩; exact Gn.canon (by first | rfl | (simp [List.append_nil, encT, slR, slB, slI, dNw0, dstw0, encWt, hsn2]; rfl)) (by simp [wk, dNw0, dstw0, encWt, vt0, hsn2]) (by simp [List.length_append]) (by simp [belAll_append, bel_ints, bel_bools, bel_rows, bel_slI, bel_slR, bel_slB, bel_encT, bel_pthV, bel_flatWt, bel_encWt, bel_disV]) (by simp [belAll_append, bel_ints, bel_bools, bel_rows, bel_slI, bel_slR, bel_slB, bel_encT, bel_pthV, bel_flatWt, bel_encWt, bel_disV])
                      · rw [decide_eq_false hA, Bool.false_and] at hsn2
                        simp (maxSteps := 2000000) -implicitDefEqProofs +contextual (disch := first | assumption | omega | decide +kernel) only [push_cast, ↓capI, br2_true, br2_false, frk_tt, frk_tf, frk_f, frkD_tt, frkD_tf, frkD_f, pk2_true, pk2_false, imp_true, seval, Nat.reduceLeDiff, Nat.reduceEqDiff, reduceCtorEq, ↓reduceIte, cfg0, cfgW, ones_ints, ones_bools, getV_map, getV_mapO, List.length_map, Nat.mul_one, slI, slR, slB, encT, encWt, hkl, hll, hsn, hg0, hg1, hb0, hb1, hA]
                        refine ⟨(k + 1), by omega, by (try simp only); omega, ?_⟩; exact Gn.canon (by first | rfl | (simp [List.append_nil, encT, slR, slB, slI, dNw0, dstw0, encWt, hsn2]; rfl)) (by simp [wk, dNw0, dstw0, encWt, vt0, hsn2]) (by simp [List.length_append]) (by simp [belAll_append, bel_ints, bel_bools, bel_rows, bel_slI, bel_slR, bel_slB, bel_encT, bel_pthV, bel_flatWt, bel_encWt, bel_disV]) (by simp [belAll_append, bel_ints, bel_bools, bel_rows, bel_slI, bel_slR, bel_slB, bel_encT, bel_pthV, bel_flatWt, bel_encWt, bel_disV])
                  · have hkn : k = l.length := by omega
                    subst hkn
                    have hva := vt_all (c0 := false) (p := P) (q := Q) (l := l)
                    cases hsn : vt false P Q l l.length with
                    | true =>
                      have hfin := (hdone true (by rw [← hva]; exact hsn)).1 rfl
                      simp (maxSteps := 2000000) -implicitDefEqProofs +contextual (disch := first | assumption | omega | decide +kernel) only [push_cast, ↓capI, br2_true, br2_false, frk_tt, frk_tf, frk_f, frkD_tt, frkD_tf, frkD_f, pk2_true, pk2_false, imp_true, seval, Nat.reduceLeDiff, Nat.reduceEqDiff, reduceCtorEq, ↓reduceIte, cfg0, cfgW, ones_ints, ones_bools, getV_map, getV_mapO, List.length_map, Nat.mul_one, slI, slR, slB, encT, encWt, hkl, hsn]
                      refine ⟨(s + 1), by omega, by (try simp only); omega, ?_⟩; exact Gn.canon (by first | rfl | (simp [List.append_nil, encT, slR, slB, slI, dNw0, dstw0, encWt, hfin]; rfl)) (by simp [wk, dNw0, dstw0, encWt, vt0, hfin]) (by simp [List.length_append]) (by simp [belAll_append, bel_ints, bel_bools, bel_rows, bel_slI, bel_slR, bel_slB, bel_encT, bel_pthV, bel_flatWt, bel_encWt, bel_disV]) (by simp [belAll_append, bel_ints, bel_bools, bel_rows, bel_slI, bel_slR, bel_slB, bel_encT, bel_pthV, bel_flatWt, bel_encWt, bel_disV])
                    | false =>
                      have hfin := (hdone false (by rw [← hva]; exact hsn)).2 rfl
                      have hap : l.length - 1 + 1 = l.length := by omega
                      simp (maxSteps := 2000000) -implicitDefEqProofs +contextual (disch := first | assumption | omega | decide +kernel) only [push_cast, ↓capI, br2_true, br2_false, frk_tt, frk_tf, frk_f, frkD_tt, frkD_tf, frkD_f, pk2_true, pk2_false, imp_true, seval, Nat.reduceLeDiff, Nat.reduceEqDiff, reduceCtorEq, ↓reduceIte, cfg0, cfgW, ones_ints, ones_bools, getV_map, getV_mapO, List.length_map, Nat.mul_one, slI, slR, slB, encT, encWt, hkl, hll, hap, hsn]
                      refine ⟨(s + 1), by omega, by (try simp only); omega, ?_⟩; exact Gn.canon (by first | rfl | (simp [List.append_nil, encT, slR, slB, slI, dNw0, dstw0, encWt, hfin, hap]; rfl)) (by simp [wk, dNw0, dstw0, encWt, vt0, hfin, hap]) (by simp [List.length_append]) (by simp [belAll_append, bel_ints, bel_bools, bel_rows, bel_slI, bel_slR, bel_slB, bel_encT, bel_pthV, bel_flatWt, bel_encWt, bel_disV]) (by simp [belAll_append, bel_ints, bel_bools, bel_rows, bel_slI, bel_slR, bel_slB, bel_encT, bel_pthV, bel_flatWt, bel_encWt, bel_disV])
            · rw [decide_eq_false hP, Bool.false_and] at hdone
              simp (maxSteps := 2000000) -implicitDefEqProofs +contextual (disch := first | assumption | omega | decide +kernel) only [push_cast, ↓capI, br2_true, br2_false, frk_tt, frk_tf, frk_f, frkD_tt, frkD_tf, frkD_f, pk2_true, pk2_false, imp_true, seval, Nat.reduceLeDiff, Nat.reduceEqDiff, reduceCtorEq, ↓reduceIte, cfg0, cfgW, ones_ints, ones_bools, getV_map, getV_mapO, List.length_map, Nat.mul_one, slI, slR, slB, encT, encWt, hMx, hlM]
              refine callG.pc1 h1 ?_
              simp (maxSteps := 2000000) -implicitDefEqProofs +contextual (disch := first | assumption | omega | decide +kernel) only [push_cast, ↓capI, br2_true, br2_false, frk_tt, frk_tf, frk_f, frkD_tt, frkD_tf, frkD_f, pk2_true, pk2_false, imp_true, seval, Nat.reduceLeDiff, Nat.reduceEqDiff, reduceCtorEq, ↓reduceIte, cfg0, cfgW, ones_ints, ones_bools, getV_map, getV_mapO, List.length_map, Nat.mul_one, slI, slR, slB, encT, encWt]
              refine callG.pc1 h2 ?_
              simp (maxSteps := 2000000) -implicitDefEqProofs +contextual (disch := first | assumption | omega | decide +kernel) only [push_cast, ↓capI, br2_true, br2_false, frk_tt, frk_tf, frk_f, frkD_tt, frkD_tf, frkD_f, pk2_true, pk2_false, imp_true, seval, Nat.reduceLeDiff, Nat.reduceEqDiff, reduceCtorEq, ↓reduceIte, cfg0, cfgW, ones_ints, ones_bools, getV_map, getV_mapO, List.length_map, Nat.mul_one, slI, slR, slB, encT, encWt, hP]
              refine T.lp tok mixed cfgW (fun ((k : Nat)) => dd 2 (kp 2 (dd 2 (kp 3 (dd 2 (kp 2 (sv (.bool (vt false P Q l k)) (sv (.int .i64 (k : Int)) (dd 119 (nl)))))))))) (fun H0 ((k : Nat)) => H0) (fun ((k : Nat)) => k ≤ l.length) (fun ((k : Nat)) => l.length - k) (0) ?_ ?_ ?_
              · exact Nat.zero_le _
              · exact Gn.canon (J := _) (by first | rfl | (simp [List.append_nil, encT, slR, slB, slI, dNw0, dstw0, encWt]; done) | (simp [List.append_nil, encT, slR, slB, slI, dNw0, dstw0, encWt]; rfl)) (by simp [wk, dNw0, dstw0, encWt, vt0, putT, kp, dd, sv, nl]) (by simp [List.length_append]) (by simp [belAll_append, bel_ints, bel_bools, bel_rows, bel_slI, bel_slR, bel_slB, bel_encT, bel_pthV, bel_flatWt, bel_encWt, bel_disV, kp, dd, sv, nl]) (by simp [belAll_append, bel_ints, bel_bools, bel_rows, bel_slI, bel_slR, bel_slB, bel_encT, bel_pthV, bel_flatWt, bel_encWt, bel_disV])
              · intro k hk
                have hk0 : k ≤ l.length := hk
                by_cases hkl : k < l.length
                · have hvs := fun c0 => vt_succ (c0 := c0) (p := P) (q := Q) hkl
                  have hg0 : getV (l.flatMap encWt) (k * 4) 1 = [.int .i64 l[k].v.p] := get_Wt (l := l) (o := 0) hkl (by omega)
                  have hg1 : getV (l.flatMap encWt) (k * 4 + 1) 1 = [.int .i64 l[k].v.q] := get_Wt (l := l) hkl (by omega)
                  have hb0 : k * 4 + 1 ≤ l.length * 4 := by omega
                  have hb1 : k * 4 + 1 + 1 ≤ l.length * 4 := by omega
                  cases hsn : vt false P Q l k with
                  | true =>
                    have hsn2 : vt false P Q l (k + 1) = true := by rw [hvs, hsn, Bool.true_or]
                    simp (maxSteps := 2000000) -implicitDefEqProofs +contextual (disch := first | assumption | omega | decide +kernel) only [push_cast, ↓capI, br2_true, br2_false, frk_tt, frk_tf, frk_f, frkD_tt, frkD_tf, frkD_f, pk2_true, pk2_false, imp_true, seval, Nat.reduceLeDiff, Nat.reduceEqDiff, reduceCtorEq, ↓reduceIte, cfg0, cfgW, ones_ints, ones_bools, getV_map, getV_mapO, List.length_map, Nat.mul_one, slI, slR, slB, encT, encWt, hkl, hll, hsn]
                    refine ⟨(k + 1), by omega, by (try simp only); omega, ?_⟩; exact Gn.canon (by first | rfl | (simp [List.append_nil, encT, slR, slB, slI, dNw0, dstw0, encWt, hsn2]; rfl)) (by simp [wk, dNw0, dstw0, encWt, vt0, hsn2]) (by simp [List.length_append]) (by simp [belAll_append, bel_ints, bel_bools, bel_rows, bel_slI, bel_slR, bel_slB, bel_encT, bel_pthV, bel_flatWt, bel_encWt, bel_disV]) (by simp [belAll_append, bel_ints, bel_bools, bel_rows, bel_slI, bel_slR, bel_slB, bel_encT, bel_pthV, bel_flatWt, bel_encWt, bel_disV])
                  | false =>
                    have hsn2 : vt false P Q l (k + 1) = (decide (l[k].v.p = P) && decide (l[k].v.q = Q)) := by rw [hvs, hsn, Bool.false_or]
                    by_cases hA : l[k].v.p = P
                    · by_cases hB : l[k].v.q = Q
                      · rw [decide_eq_true hA, decide_eq_true hB, Bool.and_self] at hsn2
                        simp (maxSteps := 2000000) -implicitDefEqProofs +contextual (disch := first | assumption | omega | decide +kernel) only [push_cast, ↓capI, br2_true, br2_false, frk_tt, frk_tf, frk_f, frkD_tt, frkD_tf, frkD_f, pk2_true, pk2_false, imp_true, seval, Nat.reduceLeDiff, Nat.reduceEqDiff, reduceCtorEq, ↓reduceIte, cfg0, cfgW, ones_ints, ones_bools, getV_map, getV_mapO, List.length_map, Nat.mul_one, slI, slR, slB, encT, encWt, hkl, hll, hsn, hg0, hg1, hb0, hb1, hA, hB]
                        refine ⟨(k + 1), by omega, by (try simp only); omega, ?_⟩; exact Gn.canon (by first | rfl | (simp [List.append_nil, encT, slR, slB, slI, dNw0, dstw0, encWt, hsn2]; rfl)) (by simp [wk, dNw0, dstw0, encWt, vt0, hsn2]) (by simp [List.length_append]) (by simp [belAll_append, bel_ints, bel_bools, bel_rows, bel_slI, bel_slR, bel_slB, bel_encT, bel_pthV, bel_flatWt, bel_encWt, bel_disV]) (by simp [belAll_append, bel_ints, bel_bools, bel_rows, bel_slI, bel_slR, bel_slB, bel_encT, bel_pthV, bel_flatWt, bel_encWt, bel_disV])
                      · rw [decide_eq_true hA, decide_eq_false hB, Bool.and_false] at hsn2
                        simp (maxSteps := 2000000) -implicitDefEqProofs +contextual (disch := first | assumption | omega | decide +kernel) only [push_cast, ↓capI, br2_true, br2_false, frk_tt, frk_tf, frk_f, frkD_tt, frkD_tf, frkD_f, pk2_true, pk2_false, imp_true, seval, Nat.reduceLeDiff, Nat.reduceEqDiff, reduceCtorEq, ↓reduceIte, cfg0, cfgW, ones_ints, ones_bools, getV_map, getV_mapO, List.length_map, Nat.mul_one, slI, slR, slB, encT, encWt, hkl, hll, hsn, hg0, hg1, hb0, hb1, hA, hB]
                        refine ⟨(k + 1), by omega, by (try simp only); omega, ?_⟩; exact Gn.canon (by first | rfl | (simp [List.append_nil, encT, slR, slB, slI, dNw0, dstw0, encWt, hsn2]; rfl)) (by simp [wk, dNw0, dstw0, encWt, vt0, hsn2]) (by simp [List.length_append]) (by simp [belAll_append, bel_ints, bel_bools, bel_rows, bel_slI, bel_slR, bel_slB, bel_encT, bel_pthV, bel_flatWt, bel_encWt, bel_disV]) (by simp [belAll_append, bel_ints, bel_bools, bel_rows, bel_slI, bel_slR, bel_slB, bel_encT, bel_pthV, bel_flatWt, bel_encWt, bel_disV])
                    · rw [decide_eq_false hA, Bool.false_and] at hsn2
                      simp (maxSteps := 2000000) -implicitDefEqProofs +contextual (disch := first | assumption | omega | decide +kernel) only [push_cast, ↓capI, br2_true, br2_false, frk_tt, frk_tf, frk_f, frkD_tt, frkD_tf, frkD_f, pk2_true, pk2_false, imp_true, seval, Nat.reduceLeDiff, Nat.reduceEqDiff, reduceCtorEq, ↓reduceIte, cfg0, cfgW, ones_ints, ones_bools, getV_map, getV_mapO, List.length_map, Nat.mul_one, slI, slR, slB, encT, encWt, hkl, hll, hsn, hg0, hg1, hb0, hb1, hA]
                      refine ⟨(k + 1), by omega, by (try simp only); omega, ?_⟩; exact Gn.canon (by first | rfl | (simp [List.append_nil, encT, slR, slB, slI, dNw0, dstw0, encWt, hsn2]; rfl)) (by simp [wk, dNw0, dstw0, encWt, vt0, hsn2]) (by simp [List.length_append]) (by simp [belAll_append, bel_ints, bel_bools, bel_rows, bel_slI, bel_slR, bel_slB, bel_encT, bel_pthV, bel_flatWt, bel_encWt, bel_disV]) (by simp [belAll_append, bel_ints, bel_bools, bel_rows, bel_slI, bel_slR, bel_slB, bel_encT, bel_pthV, bel_flatWt, bel_encWt, bel_disV])
                · have hkn : k = l.length := by omega
                  subst hkn
                  have hva := vt_all (c0 := false) (p := P) (q := Q) (l := l)
                  cases hsn : vt false P Q l l.length with
                  | true =>
                    have hfin := (hdone true (by rw [← hva]; exact hsn)).1 rfl
                    simp (maxSteps := 2000000) -implicitDefEqProofs +contextual (disch := first | assumption | omega | decide +kernel) only [push_cast, ↓capI, br2_true, br2_false, frk_tt, frk_tf, frk_f, frkD_tt, frkD_tf, frkD_f, pk2_true, pk2_false, imp_true, seval, Nat.reduceLeDiff, Nat.reduceEqDiff, reduceCtorEq, ↓reduceIte, cfg0, cfgW, ones_ints, ones_bools, getV_map, getV_mapO, List.length_map, Nat.mul_one, slI, slR, slB, encT, encWt, hkl, hsn]
                    refine ⟨(s + 1), by omega, by (try simp only); omega, ?_⟩; exact Gn.canon (by first | rfl | (simp [List.append_nil, encT, slR, slB, slI, dNw0, dstw0, encWt, hfin]; rfl)) (by simp [wk, dNw0, dstw0, encWt, vt0, hfin]) (by simp [List.length_append]) (by simp [belAll_append, bel_ints, bel_bools, bel_rows, bel_slI, bel_slR, bel_slB, bel_encT, bel_pthV, bel_flatWt, bel_encWt, bel_disV]) (by simp [belAll_append, bel_ints, bel_bools, bel_rows, bel_slI, bel_slR, bel_slB, bel_encT, bel_pthV, bel_flatWt, bel_encWt, bel_disV])
                  | false =>
                    have hfin := (hdone false (by rw [← hva]; exact hsn)).2 rfl
                    have hap : l.length - 1 + 1 = l.length := by omega
                    simp (maxSteps := 2000000) -implicitDefEqProofs +contextual (disch := first | assumption | omega | decide +kernel) only [push_cast, ↓capI, br2_true, br2_false, frk_tt, frk_tf, frk_f, frkD_tt, frkD_tf, frkD_f, pk2_true, pk2_false, imp_true, seval, Nat.reduceLeDiff, Nat.reduceEqDiff, reduceCtorEq, ↓reduceIte, cfg0, cfgW, ones_ints, ones_bools, getV_map, getV_mapO, List.length_map, Nat.mul_one, slI, slR, slB, encT, encWt, hkl, hll, hap, hsn]
                    refine ⟨(s + 1), by omega, by (try simp only); omega, ?_⟩; exact Gn.canon (by first | rfl | (simp [List.append_nil, encT, slR, slB, slI, dNw0, dstw0, encWt, hfin, hap]; rfl)) (by simp [wk, dNw0, dstw0, encWt, vt0, hfin, hap]) (by simp [List.length_append]) (by simp [belAll_append, bel_ints, bel_bools, bel_rows, bel_slI, bel_slR, bel_slB, bel_encT, bel_pthV, bel_flatWt, bel_encWt, bel_disV]) (by simp [belAll_append, bel_ints, bel_bools, bel_rows, bel_slI, bel_slR, bel_slB, bel_encT, bel_pthV, bel_flatWt, bel_encWt, bel_disV])
          · have hsM2 : s = M := by omega
            subst hsM2
            rw [hlast rfl] at hnext
            simp (maxSteps := 2000000) -implicitDefEqProofs +contextual (disch := first | assumption | omega | decide +kernel) only [push_cast, ↓capI, br2_true, br2_false, frk_tt, frk_tf, frk_f, frkD_tt, frkD_tf, frkD_f, pk2_true, pk2_false, imp_true, seval, Nat.reduceLeDiff, Nat.reduceEqDiff, reduceCtorEq, ↓reduceIte, cfg0, cfgW, ones_ints, ones_bools, getV_map, getV_mapO, List.length_map, Nat.mul_one, slI, slR, slB, encT, encWt, hMx, hlM]
            refine ⟨(i + 1), ⟨by rw [hnext]; exact hil, hs⟩, by (try simp only); omega, ?_⟩; exact Gn.canon (by first | rfl | (simp [List.append_nil, encT, slR, slB, slI, dNw0, dstw0, encWt, hnext]; rfl)) (by simp [wk, dNw0, dstw0, encWt, vt0, hnext]) (by simp [List.length_append]) (by simp [belAll_append, bel_ints, bel_bools, bel_rows, bel_slI, bel_slR, bel_slB, bel_encT, bel_pthV, bel_flatWt, bel_encWt, bel_disV]) (by simp [belAll_append, bel_ints, bel_bools, bel_rows, bel_slI, bel_slR, bel_slB, bel_encT, bel_pthV, bel_flatWt, bel_encWt, bel_disV])
      · rw [if_pos (by simpa using hd)] at hs
        rw [← hs]
        generalize accq ⟨na, ca⟩ p = av at hcp hd
        generalize accq ⟨nb, cb⟩ q = bv at hcq hd
        simp (maxSteps := 2000000) -implicitDefEqProofs +contextual (disch := first | assumption | omega | decide +kernel) only [push_cast, ↓capI, br2_true, br2_false, frk_tt, frk_tf, frk_f, frkD_tt, frkD_tf, frkD_f, pk2_true, pk2_false, imp_true, seval, Nat.reduceLeDiff, Nat.reduceEqDiff, reduceCtorEq, ↓reduceIte, cfg0, cfgW, ones_ints, ones_bools, getV_map, getV_mapO, List.length_map, Nat.mul_one, slI, slR, slB, encT, encWt, hlt, hgv, hfl]
        refine callG.pc1 hcp ?_
        simp (maxSteps := 2000000) -implicitDefEqProofs +contextual (disch := first | assumption | omega | decide +kernel) only [push_cast, ↓capI, br2_true, br2_false, frk_tt, frk_tf, frk_f, frkD_tt, frkD_tf, frkD_f, pk2_true, pk2_false, imp_true, seval, Nat.reduceLeDiff, Nat.reduceEqDiff, reduceCtorEq, ↓reduceIte, cfg0, cfgW, ones_ints, ones_bools, getV_map, getV_mapO, List.length_map, Nat.mul_one, slI, slR, slB, encT, encWt]
        refine callG.pc1 hcq ?_
        simp (maxSteps := 2000000) -implicitDefEqProofs +contextual (disch := first | assumption | omega | decide +kernel) only [push_cast, ↓capI, br2_true, br2_false, frk_tt, frk_tf, frk_f, frkD_tt, frkD_tf, frkD_f, pk2_true, pk2_false, imp_true, seval, Nat.reduceLeDiff, Nat.reduceEqDiff, reduceCtorEq, ↓reduceIte, cfg0, cfgW, ones_ints, ones_bools, getV_map, getV_mapO, List.length_map, Nat.mul_one, slI, slR, slB, encT, encWt, hd]
        refine T.lp tok mixed cfgW (fun ((s : Nat × List Int)) => dd 6 (kp 1 (dd 2 (sv (pthV s.2) (sv (.int .i64 (s.1 : Int)) (dd 123 (nl))))))) (fun H0 ((s : Nat × List Int)) => H0) (fun ((s : Nat × List Int)) => ∃ h : s.1 < L.length, (L[s.1]'h).v.path ++ s.2 = path) (fun ((s : Nat × List Int)) => s.1) ((i, [])) ?_ ?_ ?_
        · exact ⟨hlt, by simp only [hX, List.append_nil]⟩
        · exact Gn.canon (J := []) (by simp [List.append_nil, encT, slR, slB, slI, dNw0, dstw0, encWt]) (by simp [wk, dNw0, dstw0, encWt, vt0, putT, kp, dd, sv, nl, pthV]) (by simp [List.length_append]) (by simp [belAll_append, bel_ints, bel_bools, bel_rows, bel_slI, bel_slR, bel_slB, bel_encT, bel_pthV, bel_flatWt, bel_encWt, bel_disV, kp, dd, sv, nl]) (by simp [belAll_append, bel_ints, bel_bools, bel_rows, bel_slI, bel_slR, bel_slB, bel_encT, bel_pthV, bel_flatWt, bel_encWt, bel_disV])
        · intro s hs2
          obtain ⟨k, out⟩ := s
          obtain ⟨hk, hp2⟩ := hs2
          simp only at hk hp2
          have hg2 : getV (L.flatMap encWt) (k * 4 + 2) 1 = [.int .i64 L[k].fr] := get_Wt (l := L) hk (by omega)
          have hg3 : getV (L.flatMap encWt) (k * 4 + 3) 1 = [.int .i64 L[k].sw] := get_Wt (l := L) hk (by omega)
          have hb2 : k * 4 + 2 + 1 ≤ L.length * 4 := by omega
          have hb3 : k * 4 + 3 + 1 ≤ L.length * 4 := by omega
          have hol : out.length ≤ i := by
            have := congrArg List.length hp2
            rw [List.length_append] at this
            omega
          rcases hchi k hk with ⟨hf, hpe⟩ | ⟨j, hj, hf, hpe⟩
          · rw [hpe, List.nil_append] at hp2
            subst hp2
            obtain ⟨pb, pcs, pn, hpv⟩ := pth_sl out
            have hfn : ¬ 0 ≤ L[k].fr := by omega
            simp (maxSteps := 2000000) -implicitDefEqProofs +contextual (disch := first | assumption | omega | decide +kernel) only [push_cast, ↓capI, br2_true, br2_false, frk_tt, frk_tf, frk_f, frkD_tt, frkD_tf, frkD_f, pk2_true, pk2_false, imp_true, seval, Nat.reduceLeDiff, Nat.reduceEqDiff, reduceCtorEq, ↓reduceIte, cfg0, cfgW, ones_ints, ones_bools, getV_map, getV_mapO, List.length_map, Nat.mul_one, slI, slR, slB, encT, encWt, hk, hg2, hfl, hb2, hfn, hpv]
            refine endK.ret ?_ (by first | rfl | simp [belAll_append, bel_ints, bel_bools, bel_rows, bel_slI, bel_slR, bel_slB, bel_encT, bel_pthV, bel_flatWt, bel_encWt, bel_disV]); simp [evRes, getT, retV, Try.f16,  disV, hpv]
          · have hp3 : (L[j]'(by omega)).v.path ++ (L[k].sw :: out) = path := by
              rw [← hp2, hpe, List.append_assoc]; rfl
            have hfn : 0 ≤ L[k].fr := by omega
            cases out with
            | nil =>
              simp (maxSteps := 2000000) -implicitDefEqProofs +contextual (disch := first | assumption | omega | decide +kernel) only [push_cast, ↓capI, br2_true, br2_false, frk_tt, frk_tf, frk_f, frkD_tt, frkD_tf, frkD_f, pk2_true, pk2_false, imp_true, seval, Nat.reduceLeDiff, Nat.reduceEqDiff, reduceCtorEq, ↓reduceIte, cfg0, cfgW, ones_ints, ones_bools, getV_map, getV_mapO, List.length_map, Nat.mul_one, slI, slR, slB, encT, encWt, hk, hg2, hg3, hfl, hb2, hb3, hfn, pthV, hf]
              refine ⟨(j, [L[k].sw]), ⟨by simp only; omega, hp3⟩, by (try simp only); omega, ?_⟩; refine (Gn.freeze (id := 4) rfl).trans ?_; exact Gn.canon (by first | rfl | (simp [List.append_nil, encT, slR, slB, slI, dNw0, dstw0, encWt, fzs, fz, fzs_ok, fzH, setO, getO, Nat.beq, List.take_of_length_le, belAll_append, bel_ints, bel_bools, bel_rows, bel_slI, bel_slR, bel_slB, bel_encT, bel_pthV, bel_flatWt, bel_encWt, bel_disV, hf, pthV, slI]; done) | (simp [List.append_nil, encT, slR, slB, slI, dNw0, dstw0, encWt, fzs, fz, fzs_ok, fzH, setO, getO, Nat.beq, List.take_of_length_le, belAll_append, bel_ints, bel_bools, bel_rows, bel_slI, bel_slR, bel_slB, bel_encT, bel_pthV, bel_flatWt, bel_encWt, bel_disV, hf, pthV, slI]; rfl)) (by simp [wk, dNw0, dstw0, encWt, vt0, fzs, fz, fzs_ok, fzH, setO, getO, Nat.beq, List.take_of_length_le, belAll_append, bel_ints, bel_bools, bel_rows, bel_slI, bel_slR, bel_slB, bel_encT, bel_pthV, bel_flatWt, bel_encWt, bel_disV, hf, pthV, slI, cfg0, cfgW, ones_ints, ones_bools, getV_map, getV_mapO, List.length_map, Nat.mul_one, slI, slR, slB, encT, encWt]) (by simp [List.length_append]) (by simp [belAll_append, bel_ints, bel_bools, bel_rows, bel_slI, bel_slR, bel_slB, bel_encT, bel_pthV, bel_flatWt, bel_encWt, bel_disV]) (by simp [belAll_append, bel_ints, bel_bools, bel_rows, bel_slI, bel_slR, bel_slB, bel_encT, bel_pthV, bel_flatWt, bel_encWt, bel_disV])
            | cons y t =>
              have htl : t.length ≤ 68719476000 := by simp only [List.length_cons] at hol; omega
              simp (maxSteps := 2000000) -implicitDefEqProofs +contextual (disch := first | assumption | omega | decide +kernel) only [push_cast, ↓capI, br2_true, br2_false, frk_tt, frk_tf, frk_f, frkD_tt, frkD_tf, frkD_f, pk2_true, pk2_false, imp_true, seval, Nat.reduceLeDiff, Nat.reduceEqDiff, reduceCtorEq, ↓reduceIte, cfg0, cfgW, ones_ints, ones_bools, getV_map, getV_mapO, List.length_map, Nat.mul_one, slI, slR, slB, encT, encWt, hk, hg2, hg3, hfl, hb2, hb3, hfn, pthV, hf, htl, take_ints]
              have e1 : 1 + (t.length + 1) = t.length + 1 + 1 := by omega
              refine ⟨(j, L[k].sw :: y :: t), ⟨by simp only; omega, hp3⟩, by (try simp only); omega, ?_⟩; refine (Gn.freeze (id := 4) rfl).trans ?_; exact Gn.canon (by first | rfl | (simp [List.append_nil, encT, slR, slB, slI, dNw0, dstw0, encWt, fzs, fz, fzs_ok, fzH, setO, getO, Nat.beq, List.take_of_length_le, belAll_append, bel_ints, bel_bools, bel_rows, bel_slI, bel_slR, bel_slB, bel_encT, bel_pthV, bel_flatWt, bel_encWt, bel_disV, hf, pthV, slI, e1, List.take_succ_cons, take_ints]; done) | (simp [List.append_nil, encT, slR, slB, slI, dNw0, dstw0, encWt, fzs, fz, fzs_ok, fzH, setO, getO, Nat.beq, List.take_of_length_le, belAll_append, bel_ints, bel_bools, bel_rows, bel_slI, bel_slR, bel_slB, bel_encT, bel_pthV, bel_flatWt, bel_encWt, bel_disV, hf, pthV, slI, e1, List.take_succ_cons, take_ints]; rfl)) (by simp [wk, dNw0, dstw0, encWt, vt0, fzs, fz, fzs_ok, fzH, setO, getO, Nat.beq, List.take_of_length_le, belAll_append, bel_ints, bel_bools, bel_rows, bel_slI, bel_slR, bel_slB, bel_encT, bel_pthV, bel_flatWt, bel_encWt, bel_disV, hf, pthV, slI, e1, List.take_succ_cons, take_ints, cfg0, cfgW, ones_ints, ones_bools, getV_map, getV_mapO, List.length_map, Nat.mul_one, slI, slR, slB, encT, encWt]) (by simp [List.length_append]) (by simp [belAll_append, bel_ints, bel_bools, bel_rows, bel_slI, bel_slR, bel_slB, bel_encT, bel_pthV, bel_flatWt, bel_encWt, bel_disV]) (by simp [belAll_append, bel_ints, bel_bools, bel_rows, bel_slI, bel_slR, bel_slB, bel_encT, bel_pthV, bel_flatWt, bel_encWt, bel_disV])
    · rw [List.getElem?_eq_none (by omega)] at hs
      simp only [Option.map_none] at hs
      rw [← hs]
      simp (maxSteps := 2000000) -implicitDefEqProofs +contextual (disch := first | assumption | omega | decide +kernel) only [push_cast, ↓capI, br2_true, br2_false, frk_tt, frk_tf, frk_f, frkD_tt, frkD_tf, frkD_f, pk2_true, pk2_false, imp_true, seval, Nat.reduceLeDiff, Nat.reduceEqDiff, reduceCtorEq, ↓reduceIte, cfg0, cfgW, ones_ints, ones_bools, getV_map, getV_mapO, List.length_map, Nat.mul_one, slI, slR, slB, encT, encWt, hlt]
      refine endK.ret ?_ (by first | rfl | simp [belAll_append, bel_ints, bel_bools, bel_rows, bel_slI, bel_slR, bel_slB, bel_encT, bel_pthV, bel_flatWt, bel_encWt, bel_disV]); simp [evRes, getT, retV, Try.f16,  disV]
end Go.Proofs.Ytkjffppioddnpaa

/- Chapter 42: distinguishing lists. -/
set_option maxRecDepth 100000
set_option maxHeartbeats 4000000
set_option linter.all false
namespace Go.Proofs.Ytkjffppioddnpaa
open Go.Vm

def dead (v : Vt) : Bool := decide (v.p < 0) && decide (v.q < 0)
def liveV (l : List Vt) : List Vt := l.filter fun v => !dead v
theorem vin_live {p q : Int} (h : (decide (p < 0) && decide (q < 0)) = false) : ∀ l : List Vt, vin p q (liveV l) = vin p q l
  | [] => rfl
  | v :: r => by
    have ih := vin_live h r
    simp only [liveV, List.filter_cons] at ih ⊢
    cases hd : dead v with
    | true =>
      have hn : (decide (v.p = p) && decide (v.q = q)) = false := by
        cases hb : (decide (v.p = p) && decide (v.q = q)) with
        | false => rfl
        | true =>
          simp only [Bool.and_eq_true, decide_eq_true_eq] at hb
          rw [dead, hb.1, hb.2, h] at hd
          cases hd
      simp only [Bool.not_true, Bool.false_eq_true, if_false]
      rw [ih, vin, vin, List.any_cons, hn, Bool.false_or]
    | false =>
      simp only [Bool.not_false, if_true]
      simp only [vin, List.any_cons] at ih ⊢
      rw [ih]
theorem dN_live {a b : Tb} {v : Vt} {l : List Vt} : ∀ n, liveV (dN false a b v l n) = dN true a b v (liveV l) n
  | 0 => rfl
  | n + 1 => by
    have ih := dN_live (a := a) (b := b) (v := v) (l := l) n
    rw [dN, dN, dI, dI, ← ih]
    generalize dN false a b v l n = w
    cases hd : (decide (suc a v.p n < 0) && decide (suc b v.q n < 0)) with
    | true =>
      rw [if_pos (show seen true (suc a v.p n) (suc b v.q n) (liveV w) = true by rw [seen, hd]; rfl)]
      split
      · rfl
      · rw [liveV, List.filter_append]
        have : dead ⟨suc a v.p n, suc b v.q n, v.path ++ [(n : Int)]⟩ = true := hd
        simp [this, liveV]
    | false =>
      have e : seen true (suc a v.p n) (suc b v.q n) (liveV w) = seen false (suc a v.p n) (suc b v.q n) w := by
        rw [seen, seen, hd, Bool.and_false, Bool.false_and, vin_live hd]
      rw [e]
      split
      · rfl
      · rw [liveV, List.filter_append]
        have : dead ⟨suc a v.p n, suc b v.q n, v.path ++ [(n : Int)]⟩ = false := hd
        simp [this, liveV]
theorem dN_dead {a b : Tb} {v : Vt} {l : List Vt} (hd : dead v = true) (h1 : -1 ≤ v.p) (h2 : -1 ≤ v.q) (hv : v ∈ l) : ∀ n, dN false a b v l n = l
  | 0 => rfl
  | n + 1 => by
    rw [dN, dN_dead hd h1 h2 hv n, dI]
    simp only [dead, Bool.and_eq_true, decide_eq_true_eq] at hd
    have e1 : suc a v.p n = v.p := by rw [suc, if_pos (.inl hd.1)]; omega
    have e2 : suc b v.q n = v.q := by rw [suc, if_pos (.inl hd.2)]; omega
    rw [e1, e2, if_pos]
    rw [seen, vin_iff.2 (List.mem_map.2 ⟨v, hv, rfl⟩), Bool.or_true]
theorem dif_dead {a b : Tb} {v : Vt} (hd : dead v = true) : dif a b v = false := by
  simp only [dead, Bool.and_eq_true, decide_eq_true_eq] at hd
  rw [dif, accq, accq, decide_eq_false (by omega), decide_eq_false (by omega), Bool.false_and, Bool.false_and]
  rfl
def cntL (a b : Tb) (M i : Nat) : Nat := (liveV ((dst false a b M i).take i)).length
section
variable {a b : Tb} {na nb ma mb M : Nat} (ha : okT na ma a) (hb : okT nb mb b)
include ha hb
theorem dst_step {i : Nat} (hE : liveV (dst false a b M i) = dst true a b M (cntL a b M i)) {v : Vt} (hv : (dst false a b M i)[i]? = some v) :
    (dead v = true → cntL a b M (i + 1) = cntL a b M i) ∧ (dead v = false → cntL a b M (i + 1) = cntL a b M i + 1 ∧ (dst true a b M (cntL a b M i))[cntL a b M i]? = some v) ∧
    liveV (dst false a b M (i + 1)) = dst true a b M (cntL a b M (i + 1)) := by
  obtain ⟨hi, e⟩ := List.getElem?_eq_some_iff.1 hv
  obtain ⟨r, hr⟩ := dst_pre false a b M i
  have htk : (dst false a b M (i + 1)).take (i + 1) = (dst false a b M i).take i ++ [v] := by
    rw [hr, List.take_append_of_le_length (by omega), List.take_succ_eq_append_getElem hi, e]
  have hsp : liveV (dst false a b M i) = liveV ((dst false a b M i).take i) ++ liveV (v :: (dst false a b M i).drop (i + 1)) := by
    rw [liveV, liveV, liveV, ← List.filter_append]
    congr 1
    rw [← e, ← List.drop_eq_getElem_cons hi, List.take_append_drop]
  have hrng := (dst_ok (sk := false) (M := M) ha hb i).rng v (List.mem_of_getElem? hv)
  have hnx : dst false a b M (i + 1) = dN false a b v (dst false a b M i) M := by rw [dst, hv]
  have hc1 : dead v = true → cntL a b M (i + 1) = cntL a b M i := fun hd => by
    rw [cntL, htk, liveV, List.filter_append]
    simp [hd, cntL, liveV]
  have hc2 : dead v = false → cntL a b M (i + 1) = cntL a b M i + 1 := fun hd => by
    rw [cntL, htk, liveV, List.filter_append]
    simp [hd, cntL, liveV]
  have hg : dead v = false → (dst true a b M (cntL a b M i))[cntL a b M i]? = some v := fun hd => by
    rw [← hE, hsp, cntL, List.getElem?_append_right (Nat.le_refl _), Nat.sub_self]
    simp [liveV, hd]
  refine ⟨hc1, fun hd => ⟨hc2 hd, hg hd⟩, ?_⟩
  cases hd : dead v with
  | true =>
    rw [hc1 hd, hnx, dN_dead hd hrng.1 hrng.2.2.1 (List.mem_of_getElem? hv), hE]
  | false =>
    rw [hc2 hd, hnx, dN_live, hE, dst, hg hd]
theorem dst_live : ∀ i, i ≤ (dst false a b M i).length → liveV (dst false a b M i) = dst true a b M (cntL a b M i)
  | 0, _ => by
    have h0 : cntL a b M 0 = 0 := by rw [cntL, List.take_zero]; rfl
    rw [h0]
    rfl
  | i + 1, h => by
    by_cases hi : i < (dst false a b M i).length
    · have ih := dst_live i (by omega)
      exact (dst_step ha hb ih (List.getElem?_eq_getElem hi)).2.2
    · have : dst false a b M (i + 1) = dst false a b M i := by rw [dst, List.getElem?_eq_none (by omega)]
      rw [this] at h
      omega
theorem dF_eq (hna : na ≤ 64) (hnb : nb ≤ 64) : ∀ k i, i ≤ (dst false a b M i).length → 4226 ≤ i + k → ∀ k', k ≤ k' → dF true a b M k' (cntL a b M i) = dF false a b M k i := by
  intro k
  induction k with
  | zero =>
    intro i hi hk
    have := (dst_ok (sk := false) (M := M) ha hb i).len hna hnb
    omega
  | succ k ih =>
    intro i hi hk k' hk'
    obtain ⟨j, rfl⟩ : ∃ j, k' = j + 1 := ⟨k' - 1, by omega⟩
    have hE := dst_live (M := M) ha hb i hi
    rw [dF.eq_2 false]
    cases hv : (dst false a b M i)[i]? with
    | none =>
      have hl := List.getElem?_eq_none_iff.1 hv
      have : (dst true a b M (cntL a b M i))[cntL a b M i]? = none := by
        rw [← hE]
        apply List.getElem?_eq_none
        rw [cntL, List.take_of_length_le hl]
        exact Nat.le_refl _
      rw [dF, this]
    | some v =>
      have hst := dst_step ha hb hE hv
      obtain ⟨hil, _⟩ := List.getElem?_eq_some_iff.1 hv
      obtain ⟨r, hr⟩ := dst_pre false a b M i
      have hnl : i + 1 ≤ (dst false a b M (i + 1)).length := by rw [hr, List.length_append]; omega
      cases hd : dead v with
      | true =>
        simp only [dif_dead hd, Bool.false_eq_true, if_false]
        rw [← hst.1 hd]
        exact ih (i + 1) hnl (by omega) _ (by omega)
      | false =>
        obtain ⟨h1, h2⟩ := hst.2.1 hd
        rw [dF, h2]
        simp only
        split
        · rfl
        · rw [← h1]
          exact ih (i + 1) hnl (by omega) _ (by omega)
end
theorem dis_eq (a b : Tb) : disO true a b = disO false a b := by
  rw [disO, disO]
  by_cases h : chkT a ≠ 0 ∨ chkT b ≠ 0
  · rw [if_pos h, if_pos h]
  · rw [if_neg h, if_neg h]
    obtain ⟨ha, ha2⟩ := okT_of (t := a) (by omega)
    obtain ⟨hb, hb2⟩ := okT_of (t := b) (by omega)
    rw [disR, disR]
    have := dF_eq (M := max (colsT a) (colsT b)) ha hb ha2 hb2 disN 0 (Nat.zero_le _) (by rw [disN]; exact Nat.le_refl _) disN (Nat.le_refl _)
    rwa [show cntL a b (max (colsT a) (colsT b)) 0 = 0 from rfl] at this
theorem dF_len {sk : Bool} {a b : Tb} {M : Nat} {l : List Int} : ∀ k i, dF sk a b M k i = some l → l.length ≤ i + k
  | 0, i, h => by simp [dF] at h
  | k + 1, i, h => by
    rw [dF] at h
    split at h
    · cases h
    · rename_i v hv
      split at h
      · cases h
        have := path_len sk a b M i v (List.mem_of_getElem? hv)
        omega
      · have := dF_len k (i + 1) h
        omega
theorem dis_some {a b : Tb} {l : List Int} (h : disO false a b = some l) : l.length ≤ 4226 ∧ accA a l ≠ accA b l := by
  rw [disO] at h
  split at h
  · cases h
  · rename_i hc
    have h1 := dF_len _ _ h
    have h2 := dF_some _ _ h
    rw [disN] at h1
    refine ⟨by omega, ?_⟩
    rw [accA, accA, decide_eq_true (by omega), decide_eq_true (by omega), Bool.true_and, Bool.true_and]
    exact h2
theorem pc17p {a b : List Int} (ha : a.length ≤ 4000000) : PC Try.prog 17 [pthV a, pthV b] (.bool (decide (a = b))) := by
  refine PC.lax ?_
  rw [laxs, laxs, laxs, lax_pth, lax_pth]
  exact pc17 ha
theorem pc12p (t : Tb) {l : List Int} (hl : l.length ≤ 4000000) : PC Try.prog 12 [.agg (encT t), pthV l] (.bool (accA t l)) := by
  refine PC.lax ?_
  rw [laxs, laxs, laxs, lax_pth, Go.Vm.lax, lax_encT]
  exact pc12 t hl
def dsL (o : Option (List Int)) : List Int := o.getD []
theorem disV_eq (o : Option (List Int)) : disV o = .tup [pthV (dsL o), .bool o.isSome] := by
  cases o <;> rfl
theorem pc5 (a b : Tb) : PC Try.prog 5 [.agg (encT a), .agg (encT b)] (.bool true) := by
  have h14a := pc14 a
  have h14b := pc14 b
  have h15 := pc15 a b
  have h16 := pc16 a b
  rw [dis_eq a b] at h16
  have hs := fun l => dis_some (a := a) (b := b) (l := l)
  generalize disO false a b = o at h15 h16 hs
  rw [disV_eq] at h15 h16
  have hl : (dsL o).length ≤ 4000000 := by
    cases o with
    | none => exact Nat.zero_le _
    | some l => have := (hs l rfl).1; show l.length ≤ 4000000; omega
  have h17 := pc17p (a := dsL o) (b := dsL o) hl
  rw [decide_eq_true rfl] at h17
  have h12a := pc12p a (l := dsL o) hl
  have h12b := pc12p b (l := dsL o) hl
  have hne : o.isSome = true → accA a (dsL o) ≠ accA b (dsL o) := fun h => by
    cases o with
    | none => cases h
    | some l => exact (hs l rfl).2
  obtain ⟨pb, pcs, pn, hpv⟩ := pth_sl (dsL o)
  generalize accA a (dsL o) = xa at h12a hne
  generalize accA b (dsL o) = xb at h12b hne
  rw [hpv] at h15 h16 h17 h12a h12b
  generalize o.isSome = is at h15 h16 hne
  generalize smT a = sa at h14a
  generalize smT b = sb at h14b
  have hbp : ∀ n, belAll n pcs = true := fun n => by
    have := bel_pthV (n := n) (dsL o)
    rw [hpv, bel_sl] at this
    exact this
  clear hs hl hpv
  obtain ⟨na, ca⟩ := a
  obtain ⟨nb, cb⟩ := b
  cases sa with
  | false =>
    refine PC.walk tok mixed cfg0 Try.func5 rfl Try.call5 (by simp [belAll_append, bel_ints, bel_bools, bel_rows, bel_slI, bel_slR, bel_slB, bel_encT, bel_pthV]) (by first | rfl | simp [belAll_append, bel_ints, bel_bools, bel_rows, bel_slI, bel_slR, bel_slB, bel_encT, bel_pthV]) ?_; simp (maxSteps := 2000000) -implicitDefEqProofs +contextual (disch := first | assumption | omega | decide +kernel) only [push_cast, ↓capI, br2_true, br2_false, frk_tt, frk_tf, frk_f, frkD_tt, frkD_tf, frkD_f, pk2_true, pk2_false, imp_true, seval, Nat.reduceLeDiff, Nat.reduceEqDiff, reduceCtorEq, ↓reduceIte, cfg0, slI, slR, slB, encT, ones_ints, ones_bools, Try.ntmps5]
    refine callO.pc h14a ?_
    simp (maxSteps := 2000000) -implicitDefEqProofs +contextual (disch := first | assumption | omega | decide +kernel) only [push_cast, ↓capI, br2_true, br2_false, frk_tt, frk_tf, frk_f, frkD_tt, frkD_tf, frkD_f, pk2_true, pk2_false, imp_true, seval, Nat.reduceLeDiff, Nat.reduceEqDiff, reduceCtorEq, ↓reduceIte, cfg0, slI, slR, slB, encT, ones_ints, ones_bools]
    refine callO.pc pc8 ?_
    simp (maxSteps := 2000000) -implicitDefEqProofs +contextual (disch := first | assumption | omega | decide +kernel) only [push_cast, ↓capI, br2_true, br2_false, frk_tt, frk_tf, frk_f, frkD_tt, frkD_tf, frkD_f, pk2_true, pk2_false, imp_true, seval, Nat.reduceLeDiff, Nat.reduceEqDiff, reduceCtorEq, ↓reduceIte, cfg0, slI, slR, slB, encT, ones_ints, ones_bools]
    refine endK.ret ?_ (by first | rfl | simp [belAll_append, bel_ints, bel_bools, bel_rows, bel_slI, bel_slR, bel_slB, bel_encT, bel_pthV]); simp [evRes, getT, retV, Try.f5]
  | true =>
  cases sb with
  | false =>
    refine PC.walk tok mixed cfg0 Try.func5 rfl Try.call5 (by simp [belAll_append, bel_ints, bel_bools, bel_rows, bel_slI, bel_slR, bel_slB, bel_encT, bel_pthV]) (by first | rfl | simp [belAll_append, bel_ints, bel_bools, bel_rows, bel_slI, bel_slR, bel_slB, bel_encT, bel_pthV]) ?_; simp (maxSteps := 2000000) -implicitDefEqProofs +contextual (disch := first | assumption | omega | decide +kernel) only [push_cast, ↓capI, br2_true, br2_false, frk_tt, frk_tf, frk_f, frkD_tt, frkD_tf, frkD_f, pk2_true, pk2_false, imp_true, seval, Nat.reduceLeDiff, Nat.reduceEqDiff, reduceCtorEq, ↓reduceIte, cfg0, slI, slR, slB, encT, ones_ints, ones_bools, Try.ntmps5]
    refine callO.pc h14a ?_
    simp (maxSteps := 2000000) -implicitDefEqProofs +contextual (disch := first | assumption | omega | decide +kernel) only [push_cast, ↓capI, br2_true, br2_false, frk_tt, frk_tf, frk_f, frkD_tt, frkD_tf, frkD_f, pk2_true, pk2_false, imp_true, seval, Nat.reduceLeDiff, Nat.reduceEqDiff, reduceCtorEq, ↓reduceIte, cfg0, slI, slR, slB, encT, ones_ints, ones_bools]
    refine callO.pc h14b ?_
    simp (maxSteps := 2000000) -implicitDefEqProofs +contextual (disch := first | assumption | omega | decide +kernel) only [push_cast, ↓capI, br2_true, br2_false, frk_tt, frk_tf, frk_f, frkD_tt, frkD_tf, frkD_f, pk2_true, pk2_false, imp_true, seval, Nat.reduceLeDiff, Nat.reduceEqDiff, reduceCtorEq, ↓reduceIte, cfg0, slI, slR, slB, encT, ones_ints, ones_bools]
    refine callO.pc pc8 ?_
    simp (maxSteps := 2000000) -implicitDefEqProofs +contextual (disch := first | assumption | omega | decide +kernel) only [push_cast, ↓capI, br2_true, br2_false, frk_tt, frk_tf, frk_f, frkD_tt, frkD_tf, frkD_f, pk2_true, pk2_false, imp_true, seval, Nat.reduceLeDiff, Nat.reduceEqDiff, reduceCtorEq, ↓reduceIte, cfg0, slI, slR, slB, encT, ones_ints, ones_bools]
    refine endK.ret ?_ (by first | rfl | simp [belAll_append, bel_ints, bel_bools, bel_rows, bel_slI, bel_slR, bel_slB, bel_encT, bel_pthV]); simp [evRes, getT, retV, Try.f5]
  | true =>
  cases is with
  | false =>
    refine PC.walk tok mixed cfg0 Try.func5 rfl Try.call5 (by simp [belAll_append, bel_ints, bel_bools, bel_rows, bel_slI, bel_slR, bel_slB, bel_encT, bel_pthV]) (by first | rfl | simp [belAll_append, bel_ints, bel_bools, bel_rows, bel_slI, bel_slR, bel_slB, bel_encT, bel_pthV]) ?_; simp (maxSteps := 2000000) -implicitDefEqProofs +contextual (disch := first | assumption | omega | decide +kernel) only [push_cast, ↓capI, br2_true, br2_false, frk_tt, frk_tf, frk_f, frkD_tt, frkD_tf, frkD_f, pk2_true, pk2_false, imp_true, seval, Nat.reduceLeDiff, Nat.reduceEqDiff, reduceCtorEq, ↓reduceIte, cfg0, slI, slR, slB, encT, ones_ints, ones_bools, Try.ntmps5]
    refine callO.pc h14a ?_
    simp (maxSteps := 2000000) -implicitDefEqProofs +contextual (disch := first | assumption | omega | decide +kernel) only [push_cast, ↓capI, br2_true, br2_false, frk_tt, frk_tf, frk_f, frkD_tt, frkD_tf, frkD_f, pk2_true, pk2_false, imp_true, seval, Nat.reduceLeDiff, Nat.reduceEqDiff, reduceCtorEq, ↓reduceIte, cfg0, slI, slR, slB, encT, ones_ints, ones_bools]
    refine callO.pc h14b ?_
    simp (maxSteps := 2000000) -implicitDefEqProofs +contextual (disch := first | assumption | omega | decide +kernel) only [push_cast, ↓capI, br2_true, br2_false, frk_tt, frk_tf, frk_f, frkD_tt, frkD_tf, frkD_f, pk2_true, pk2_false, imp_true, seval, Nat.reduceLeDiff, Nat.reduceEqDiff, reduceCtorEq, ↓reduceIte, cfg0, slI, slR, slB, encT, ones_ints, ones_bools]
    refine callO.pc h15 ?_
    simp (maxSteps := 2000000) -implicitDefEqProofs +contextual (disch := first | assumption | omega | decide +kernel) only [push_cast, ↓capI, br2_true, br2_false, frk_tt, frk_tf, frk_f, frkD_tt, frkD_tf, frkD_f, pk2_true, pk2_false, imp_true, seval, Nat.reduceLeDiff, Nat.reduceEqDiff, reduceCtorEq, ↓reduceIte, cfg0, slI, slR, slB, encT, ones_ints, ones_bools]
    refine callO.pc h16 ?_
    simp (maxSteps := 2000000) -implicitDefEqProofs +contextual (disch := first | assumption | omega | decide +kernel) only [push_cast, ↓capI, br2_true, br2_false, frk_tt, frk_tf, frk_f, frkD_tt, frkD_tf, frkD_f, pk2_true, pk2_false, imp_true, seval, Nat.reduceLeDiff, Nat.reduceEqDiff, reduceCtorEq, ↓reduceIte, cfg0, slI, slR, slB, encT, ones_ints, ones_bools]
    refine callO.pc h17 ?_
    simp (maxSteps := 2000000) -implicitDefEqProofs +contextual (disch := first | assumption | omega | decide +kernel) only [push_cast, ↓capI, br2_true, br2_false, frk_tt, frk_tf, frk_f, frkD_tt, frkD_tf, frkD_f, pk2_true, pk2_false, imp_true, seval, Nat.reduceLeDiff, Nat.reduceEqDiff, reduceCtorEq, ↓reduceIte, cfg0, slI, slR, slB, encT, ones_ints, ones_bools]
    refine callG.pc1 pc8 ?_
    simp (maxSteps := 2000000) -implicitDefEqProofs +contextual (disch := first | assumption | omega | decide +kernel) only [push_cast, ↓capI, br2_true, br2_false, frk_tt, frk_tf, frk_f, frkD_tt, frkD_tf, frkD_f, pk2_true, pk2_false, imp_true, seval, Nat.reduceLeDiff, Nat.reduceEqDiff, reduceCtorEq, ↓reduceIte, cfg0, slI, slR, slB, encT, ones_ints, ones_bools]
    refine endK.ret ?_ (by first | rfl | simp [belAll_append, bel_ints, bel_bools, bel_rows, bel_slI, bel_slR, bel_slB, bel_encT, bel_pthV]); simp [evRes, getT, retV, Try.f5]
  | true =>
    have hne := hne rfl
    refine PC.walk tok mixed cfg0 Try.func5 rfl Try.call5 (by simp [belAll_append, bel_ints, bel_bools, bel_rows, bel_slI, bel_slR, bel_slB, bel_encT, bel_pthV]) (by first | rfl | simp [belAll_append, bel_ints, bel_bools, bel_rows, bel_slI, bel_slR, bel_slB, bel_encT, bel_pthV]) ?_; simp (maxSteps := 2000000) -implicitDefEqProofs +contextual (disch := first | assumption | omega | decide +kernel) only [push_cast, ↓capI, br2_true, br2_false, frk_tt, frk_tf, frk_f, frkD_tt, frkD_tf, frkD_f, pk2_true, pk2_false, imp_true, seval, Nat.reduceLeDiff, Nat.reduceEqDiff, reduceCtorEq, ↓reduceIte, cfg0, slI, slR, slB, encT, ones_ints, ones_bools, Try.ntmps5]
    refine callO.pc h14a ?_
    simp (maxSteps := 2000000) -implicitDefEqProofs +contextual (disch := first | assumption | omega | decide +kernel) only [push_cast, ↓capI, br2_true, br2_false, frk_tt, frk_tf, frk_f, frkD_tt, frkD_tf, frkD_f, pk2_true, pk2_false, imp_true, seval, Nat.reduceLeDiff, Nat.reduceEqDiff, reduceCtorEq, ↓reduceIte, cfg0, slI, slR, slB, encT, ones_ints, ones_bools]
    refine callO.pc h14b ?_
    simp (maxSteps := 2000000) -implicitDefEqProofs +contextual (disch := first | assumption | omega | decide +kernel) only [push_cast, ↓capI, br2_true, br2_false, frk_tt, frk_tf, frk_f, frkD_tt, frkD_tf, frkD_f, pk2_true, pk2_false, imp_true, seval, Nat.reduceLeDiff, Nat.reduceEqDiff, reduceCtorEq, ↓reduceIte, cfg0, slI, slR, slB, encT, ones_ints, ones_bools]
    refine callO.pc h15 ?_
    simp (maxSteps := 2000000) -implicitDefEqProofs +contextual (disch := first | assumption | omega | decide +kernel) only [push_cast, ↓capI, br2_true, br2_false, frk_tt, frk_tf, frk_f, frkD_tt, frkD_tf, frkD_f, pk2_true, pk2_false, imp_true, seval, Nat.reduceLeDiff, Nat.reduceEqDiff, reduceCtorEq, ↓reduceIte, cfg0, slI, slR, slB, encT, ones_ints, ones_bools]
    refine callO.pc h16 ?_
    simp (maxSteps := 2000000) -implicitDefEqProofs +contextual (disch := first | assumption | omega | decide +kernel) only [push_cast, ↓capI, br2_true, br2_false, frk_tt, frk_tf, frk_f, frkD_tt, frkD_tf, frkD_f, pk2_true, pk2_false, imp_true, seval, Nat.reduceLeDiff, Nat.reduceEqDiff, reduceCtorEq, ↓reduceIte, cfg0, slI, slR, slB, encT, ones_ints, ones_bools]
    refine callO.pc h17 ?_
    simp (maxSteps := 2000000) -implicitDefEqProofs +contextual (disch := first | assumption | omega | decide +kernel) only [push_cast, ↓capI, br2_true, br2_false, frk_tt, frk_tf, frk_f, frkD_tt, frkD_tf, frkD_f, pk2_true, pk2_false, imp_true, seval, Nat.reduceLeDiff, Nat.reduceEqDiff, reduceCtorEq, ↓reduceIte, cfg0, slI, slR, slB, encT, ones_ints, ones_bools]
    refine callG.pc1 h12a ?_
    simp (maxSteps := 2000000) -implicitDefEqProofs +contextual (disch := first | assumption | omega | decide +kernel) only [push_cast, ↓capI, br2_true, br2_false, frk_tt, frk_tf, frk_f, frkD_tt, frkD_tf, frkD_f, pk2_true, pk2_false, imp_true, seval, Nat.reduceLeDiff, Nat.reduceEqDiff, reduceCtorEq, ↓reduceIte, cfg0, slI, slR, slB, encT, ones_ints, ones_bools]
    refine callG.pc1 h12b ?_
    simp (maxSteps := 2000000) -implicitDefEqProofs +contextual (disch := first | assumption | omega | decide +kernel) only [push_cast, ↓capI, br2_true, br2_false, frk_tt, frk_tf, frk_f, frkD_tt, frkD_tf, frkD_f, pk2_true, pk2_false, imp_true, seval, Nat.reduceLeDiff, Nat.reduceEqDiff, reduceCtorEq, ↓reduceIte, cfg0, slI, slR, slB, encT, ones_ints, ones_bools, hne]
    refine callG.pc1 pc8 ?_
    simp (maxSteps := 2000000) -implicitDefEqProofs +contextual (disch := first | assumption | omega | decide +kernel) only [push_cast, ↓capI, br2_true, br2_false, frk_tt, frk_tf, frk_f, frkD_tt, frkD_tf, frkD_f, pk2_true, pk2_false, imp_true, seval, Nat.reduceLeDiff, Nat.reduceEqDiff, reduceCtorEq, ↓reduceIte, cfg0, slI, slR, slB, encT, ones_ints, ones_bools]
    refine endK.ret ?_ (by first | rfl | simp [belAll_append, bel_ints, bel_bools, bel_rows, bel_slI, bel_slR, bel_slB, bel_encT, bel_pthV]); simp [evRes, getT, retV, Try.f5]
theorem law5 (xs : List V) (h : TypA tt 8 [27, 27] xs) : PC Try.prog 5 xs (.bool true) := by
  obtain ⟨v1, vs, cs, rfl, rfl, h1, h⟩ := typA_cons h
  obtain ⟨v2, vs, cs2, rfl, rfl, h2, h⟩ := typA_cons h
  obtain rfl := typA_nil h
  obtain ⟨a, ha, _⟩ := typ_T (m := 4) h1
  obtain ⟨b, hb, _⟩ := typ_T (m := 4) h2
  refine PC.lax ?_
  rw [laxs, laxs, laxs, ha, hb]
  exact pc5 a b
end Go.Proofs.Ytkjffppioddnpaa


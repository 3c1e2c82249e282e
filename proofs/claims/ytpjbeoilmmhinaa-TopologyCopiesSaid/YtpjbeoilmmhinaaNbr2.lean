/-
  Chapter 40: the switches that are linked, by the program.
-/
import Derived.Test.YtpjbeoilmmhinaaNbr
set_option maxRecDepth 100000
set_option maxHeartbeats 4000000
set_option linter.all false
namespace Go.Proofs.Ytpjbeoilmmhinaa
open Go.Vm

/-- the rows of a matrix, each an object of its own; the slices that show them -/
def rowsO (n m : Nat) (f : Nat → Nat → Bool) : List Ob := tab m fun a => .cells 0 (tab n fun b => .bool (f a b))
def bufI (n i : Nat) : V := .buf (i + 2) 0 0 n 1
theorem bel_bufs {n a m : Nat} (h : a + 2 ≤ m) : belAll m (tab n (mid a (bufI n) (.sl true [] 0))) = true := by
  refine belAll_tab fun i _ => ?_
  simp only [mid]
  split
  · simp [bufI, V.bel]; omega
  · split <;> rfl
theorem bel_bufI {n k m : Nat} (h : k + 2 ≤ m) : belAll m (tab k (bufI n)) = true := belAll_tab fun i _ => by simp [bufI, bel_buf]; omega
theorem bel_bools {n m : Nat} {f : Nat → Bool} : belAll m (tab n fun b => V.bool (f b)) = true := belAll_tab fun _ _ => rfl
theorem bel_rowsO {n k m : Nat} {f : Nat → Nat → Bool} : belObs m (rowsO n k f) = true := belObs_tabN fun _ _ => bel_bools
theorem bel_rowsT {n k m : Nat} {f : Nat → Nat → Bool} : belObs m (tab k fun a => Ob.cells 0 (tab n fun b => .bool (f a b))) = true := bel_rowsO
theorem bel_rowsB {n k m : Nat} {f : Nat → Nat → Bool} {B : List Ob} : belObs m (rowsO n k f ++ B) = belObs m B := belObs_tab fun _ _ => bel_bools

theorem bel_curs {n a k m id ver off len sz : Nat} {t : Tp} (h : id < m) : belAll m (tab n (mid a (rowV t k) (.buf id ver off len sz))) = true := bel_mid2 h
theorem rowsO_length {n m : Nat} {f : Nat → Nat → Bool} : (rowsO n m f).length = m := tab_length
theorem rowsO_next {n m : Nat} : rowsO n (m + 1) (fun _ _ => false) = rowsO n m (fun _ _ => false) ++ [.cells 0 (tab n fun _ => .bool false)] := tab_succ
theorem mat_next {n x y : Nat} {f g : Nat → Nat → Bool} (hxy : ¬ y = x) (hg : ∀ a b, g a b = (f a b || (decide (x = a) && decide (y = b) || decide (y = a) && decide (x = b)))) :
    (tab n fun k => if k = y then Ob.cells 0 (tab n fun k => if k = x then V.bool true else V.bool (f y k)) else if k = x then Ob.cells 0 (tab n fun k => if k = y then V.bool true else V.bool (f x k)) else Ob.cells 0 (tab n fun b => V.bool (f k b))) = rowsO n n g := by
  refine tab_ext fun k _ => ?_
  by_cases h1 : k = y
  · subst h1
    rw [if_pos rfl]
    congr 1
    refine tab_ext fun m _ => ?_
    rw [hg]
    by_cases h2 : m = x
    · subst h2; simp
    · rw [if_neg h2]
      simp; intro h; exfalso; omega
  · rw [if_neg h1]
    by_cases h2 : k = x
    · subst h2
      rw [if_pos rfl]
      congr 1
      refine tab_ext fun m _ => ?_
      rw [hg]
      by_cases h3 : m = y
      · subst h3; simp
      · rw [if_neg h3]
        simp; intro h; exfalso; omega
    · rw [if_neg h2]
      congr 1
      refine tab_ext fun m _ => ?_
      rw [hg]
      simp; intro h; exfalso; omega
theorem any_take {α : Type} {f : α → Bool} {l : List α} {j : Nat} (h : j < l.length) : (l.take (j + 1)).any f = ((l.take j).any f || f l[j]) := by
  rw [List.take_add_one, List.getElem?_eq_getElem h, List.any_append]
  simp
theorem chk_links {t : Tp} (h : chk t = 0) {l : Lk} (hl : l ∈ t.links) : ∃ x y : Nat, l.a.1 = x ∧ l.b.1 = y ∧ x < t.ports.length ∧ y < t.ports.length ∧ x ≠ y := by
  have h1 : chk1 t = 0 := by
    unfold chk at h
    repeat' split at h
    all_goals first | omega | exact h
  unfold chk1 at h1
  split at h1
  · omega
  split at h1
  · omega
  rename_i he
  split at h1
  · omega
  split at h1
  · omega
  rename_i hd
  have hhas : ∀ a ∈ ends t, has t a = true := by
    intro a ha
    simp only [List.any_eq_true, not_exists, not_and, Bool.not_eq_true, Bool.not_eq_false'] at he
    exact he a ha
  have hm : l.a ∈ ends t ∧ l.b ∈ ends t := by
    simp only [ends, endsOf, List.mem_append, List.mem_flatMap]
    exact ⟨.inl ⟨l, hl, by simp⟩, .inl ⟨l, hl, by simp⟩⟩
  have ha := hhas _ hm.1
  have hb := hhas _ hm.2
  simp only [has, Bool.and_eq_true, decide_eq_true_eq] at ha hb
  have hne : ¬ l.a.1 = l.b.1 := by
    simp only [List.any_eq_true, not_exists, not_and, decide_eq_true_eq] at hd
    exact hd l hl
  exact ⟨l.a.1.toNat, l.b.1.toNat, by omega, by omega, by omega, by omega, by omega⟩

theorem pc19 (t : Tp) (hf : t.fit) : PC Try.prog 19 [.agg (encT t)] (encN t) := by
  have hp := hf.ports
  have hfl := hf.links
  refine PC.walk tok mixed cfg0 Try.func19 rfl Try.call19 (by simp [bel_int, bel_bool, bel_str, bel_nilp, bel_nili, bel_nilf, bel_nilm, bel_dead, bel_agg, bel_tup, bel_sl, bel_fp, bel_buf, bel_ptr, bel_mp, bel_ifc, bel_fn, bel_opt, belAll_nil, belAll_cons, belO_cells, belO_dead, belO_unborn, belObs_nil, belObs_cons, belObs_append, belAll_tab, belObs_tab, belObs_tabN, bel_rowsT, belT, belP, bel_slI, bel_slL, bel_slP, bel_ints, bel_Ps, bel_Ls, bel_encN, bel_nils, bel_mid1, bel_mid2, bel_rowsO, bel_rowsB, bel_bufs, rowsO_length, tab_length, bel_bufI, bel_curs]) (by first | rfl | simp [bel_int, bel_bool, bel_str, bel_nilp, bel_nili, bel_nilf, bel_nilm, bel_dead, bel_agg, bel_tup, bel_sl, bel_fp, bel_buf, bel_ptr, bel_mp, bel_ifc, bel_fn, bel_opt, belAll_nil, belAll_cons, belO_cells, belO_dead, belO_unborn, belObs_nil, belObs_cons, belObs_append, belAll_tab, belObs_tab, belObs_tabN, bel_rowsT, belT, belP, bel_slI, bel_slL, bel_slP, bel_ints, bel_Ps, bel_Ls, bel_encN, bel_nils, bel_mid1, bel_mid2, bel_rowsO, bel_rowsB, bel_bufs, rowsO_length, tab_length, bel_bufI, bel_curs]) ?_; simp (config := { maxSteps := 2000000 }) -implicitDefEqProofs +contextual (disch := first | assumption | omega | decide +kernel) only [push_cast, ↓capI, br2_true, br2_false, frk_tt, frk_tf, frk_f, frkD_tt, frkD_tf, frkD_f, pk2_true, pk2_false, imp_true, Nat.reduceAdd, Nat.reduceSub, Nat.reduceMul, Nat.reduceLeDiff, Nat.reduceLT, reduceCtorEq, ↓reduceIte, Nat.reduceEqDiff, Nat.reduceSub, Nat.reduceMul, Int.reduceNeg, Int.reduceLT, Int.reduceLE, Int.reduceAdd, Int.reduceSub, Int.reduceMul, Int.reduceEq, Int.reduceToNat, Nat.reduceDiv, Nat.reduceMod, Nat.reduceBEq, Nat.reduceBNe, reduceCtorEq, tt_26, tt_32, tt_22, tt_23, tt_24, tt_3, tt_4, tt_42, tt_29, tt_38, tt_53, tt_54, encT, encP, encL, slI, slP, slL, cfg0, eqP, Nat.mul_one, tab_length, mid_at, putV_tab, mid_set, getV_tabP, place_tabN, place_tab0, place_tabK, getO_tab, getO_tab0, getO_tabK, getO_tabN, setO_tab, setO_tab0, setO_tabK, setO_tabN, len_flat lenL, len_flat lenP, get_flat_part lenL, Try.ntmps19]
  refine callO.pc (pc11 t hf) ?_
  simp (config := { maxSteps := 2000000 }) -implicitDefEqProofs +contextual (disch := first | assumption | omega | decide +kernel) only [push_cast, ↓capI, br2_true, br2_false, frk_tt, frk_tf, frk_f, frkD_tt, frkD_tf, frkD_f, pk2_true, pk2_false, imp_true, Nat.reduceAdd, Nat.reduceSub, Nat.reduceMul, Nat.reduceLeDiff, Nat.reduceLT, reduceCtorEq, ↓reduceIte, Nat.reduceEqDiff, Nat.reduceSub, Nat.reduceMul, Int.reduceNeg, Int.reduceLT, Int.reduceLE, Int.reduceAdd, Int.reduceSub, Int.reduceMul, Int.reduceEq, Int.reduceToNat, Nat.reduceDiv, Nat.reduceMod, Nat.reduceBEq, Nat.reduceBNe, reduceCtorEq, tt_26, tt_32, tt_22, tt_23, tt_24, tt_3, tt_4, tt_42, tt_29, tt_38, tt_53, tt_54, encT, encP, encL, slI, slP, slL, cfg0, eqP, Nat.mul_one, tab_length, mid_at, putV_tab, mid_set, getV_tabP, place_tabN, place_tab0, place_tabK, getO_tab, getO_tab0, getO_tabK, getO_tabN, setO_tab, setO_tab0, setO_tabK, setO_tabN, len_flat lenL, len_flat lenP, get_flat_part lenL]
  refine ⟨fun h0 => ?_, fun h0 => ?_⟩
  · refine endK.ret ?_ (by first | rfl | simp [bel_int, bel_bool, bel_str, bel_nilp, bel_nili, bel_nilf, bel_nilm, bel_dead, bel_agg, bel_tup, bel_sl, bel_fp, bel_buf, bel_ptr, bel_mp, bel_ifc, bel_fn, bel_opt, belAll_nil, belAll_cons, belO_cells, belO_dead, belO_unborn, belObs_nil, belObs_cons, belObs_append, belAll_tab, belObs_tab, belObs_tabN, bel_rowsT, belT, belP, bel_slI, bel_slL, bel_slP, bel_ints, bel_Ps, bel_Ls, bel_encN, bel_nils, bel_mid1, bel_mid2, bel_rowsO, bel_rowsB, bel_bufs, rowsO_length, tab_length, bel_bufI, bel_curs]); simp [evRes, getT, retV, Try.f19,  encN, h0]
  obtain ⟨hn0, hn, _, _⟩ := chk_small h0
  simp (config := { maxSteps := 2000000 }) -implicitDefEqProofs +contextual (disch := first | assumption | omega | decide +kernel) only [push_cast, ↓capI, br2_true, br2_false, frk_tt, frk_tf, frk_f, frkD_tt, frkD_tf, frkD_f, pk2_true, pk2_false, imp_true, Nat.reduceAdd, Nat.reduceSub, Nat.reduceMul, Nat.reduceLeDiff, Nat.reduceLT, reduceCtorEq, ↓reduceIte, Nat.reduceEqDiff, Nat.reduceSub, Nat.reduceMul, Int.reduceNeg, Int.reduceLT, Int.reduceLE, Int.reduceAdd, Int.reduceSub, Int.reduceMul, Int.reduceEq, Int.reduceToNat, Nat.reduceDiv, Nat.reduceMod, Nat.reduceBEq, Nat.reduceBNe, reduceCtorEq, tt_26, tt_32, tt_22, tt_23, tt_24, tt_3, tt_4, tt_42, tt_29, tt_38, tt_53, tt_54, encT, encP, encL, slI, slP, slL, cfg0, eqP, Nat.mul_one, tab_length, mid_at, putV_tab, mid_set, getV_tabP, place_tabN, place_tab0, place_tabK, getO_tab, getO_tab0, getO_tabK, getO_tabN, setO_tab, setO_tab0, setO_tabK, setO_tabN, len_flat lenL, len_flat lenP, get_flat_part lenL]
  refine T.lp tok mixed cfg0 (fun (j : Nat) => dd 1 (kp 1 (dd 1 (kp 2 (dd 15 (kp 1 (sv (.int .i64 j) (dd 70 (nl))))))))) (fun H0 (j : Nat) => .cells 0 (encT t) :: .cells 0 (tab t.ports.length (mid j (bufI t.ports.length) (.sl true [] 0))) :: rowsO t.ports.length j (fun _ _ => false)) (fun (j : Nat) => j ≤ t.ports.length) (fun (j : Nat) => t.ports.length - j) (0) ?_ ?_ ?_
  · exact Nat.zero_le _
  · rw [mid_zero]
    exact Gn.canon (J := []) (by first | rfl | (simp [encT, encP, encL, slI, slP, slL, rep_tab, tab_length, setO, tab_set, mid_set, row_zero]; done) | (simp [encT, encP, encL, slI, slP, slL, rep_tab, tab_length, setO, tab_set, mid_set, row_zero]; rfl)) (by simp [wk, slP, slL, slI, putT, kp, dd, sv, nl]) (by simp [tab_length, rowsO_length]) (by simp [bel_int, bel_bool, bel_str, bel_nilp, bel_nili, bel_nilf, bel_nilm, bel_dead, bel_agg, bel_tup, bel_sl, bel_fp, bel_buf, bel_ptr, bel_mp, bel_ifc, bel_fn, bel_opt, belAll_nil, belAll_cons, belO_cells, belO_dead, belO_unborn, belObs_nil, belObs_cons, belObs_append, belAll_tab, belObs_tab, belObs_tabN, bel_rowsT, belT, belP, bel_slI, bel_slL, bel_slP, bel_ints, bel_Ps, bel_Ls, bel_encN, bel_nils, bel_mid1, bel_mid2, bel_rowsO, bel_rowsB, bel_bufs, rowsO_length, tab_length, bel_bufI, bel_curs, kp, dd, sv, nl]) (by simp [bel_int, bel_bool, bel_str, bel_nilp, bel_nili, bel_nilf, bel_nilm, bel_dead, bel_agg, bel_tup, bel_sl, bel_fp, bel_buf, bel_ptr, bel_mp, bel_ifc, bel_fn, bel_opt, belAll_nil, belAll_cons, belO_cells, belO_dead, belO_unborn, belObs_nil, belObs_cons, belObs_append, belAll_tab, belObs_tab, belObs_tabN, bel_rowsT, belT, belP, bel_slI, bel_slL, bel_slP, bel_ints, bel_Ps, bel_Ls, bel_encN, bel_nils, bel_mid1, bel_mid2, bel_rowsO, bel_rowsB, bel_bufs, rowsO_length, tab_length, bel_bufI, bel_curs])
  intro j hj
  simp (config := { maxSteps := 2000000 }) -implicitDefEqProofs +contextual (disch := first | assumption | omega | decide +kernel) only [push_cast, ↓capI, br2_true, br2_false, frk_tt, frk_tf, frk_f, frkD_tt, frkD_tf, frkD_f, pk2_true, pk2_false, imp_true, Nat.reduceAdd, Nat.reduceSub, Nat.reduceMul, Nat.reduceLeDiff, Nat.reduceLT, reduceCtorEq, ↓reduceIte, Nat.reduceEqDiff, Nat.reduceSub, Nat.reduceMul, Int.reduceNeg, Int.reduceLT, Int.reduceLE, Int.reduceAdd, Int.reduceSub, Int.reduceMul, Int.reduceEq, Int.reduceToNat, Nat.reduceDiv, Nat.reduceMod, Nat.reduceBEq, Nat.reduceBNe, reduceCtorEq, tt_26, tt_32, tt_22, tt_23, tt_24, tt_3, tt_4, tt_42, tt_29, tt_38, tt_53, tt_54, encT, encP, encL, slI, slP, slL, cfg0, eqP, Nat.mul_one, tab_length, mid_at, putV_tab, mid_set, getV_tabP, place_tabN, place_tab0, place_tabK, getO_tab, getO_tab0, getO_tabK, getO_tabN, setO_tab, setO_tab0, setO_tabK, setO_tabN, len_flat lenL, len_flat lenP, get_flat_part lenL, rowsO, rep_tab]
  refine ⟨fun hlt => ?_, fun hge => ?_⟩
  · refine ⟨j + 1, hlt, by (try simp only); omega, ?_⟩
    refine Gn.canon (J := []) ?_ (by simp [wk, slP, slL, slI]) (by simp) (by simp [bel_int, bel_bool, bel_str, bel_nilp, bel_nili, bel_nilf, bel_nilm, bel_dead, bel_agg, bel_tup, bel_sl, bel_fp, bel_buf, bel_ptr, bel_mp, bel_ifc, bel_fn, bel_opt, belAll_nil, belAll_cons, belO_cells, belO_dead, belO_unborn, belObs_nil, belObs_cons, belObs_append, belAll_tab, belObs_tab, belObs_tabN, bel_rowsT, belT, belP, bel_slI, bel_slL, bel_slP, bel_ints, bel_Ps, bel_Ls, bel_encN, bel_nils, bel_mid1, bel_mid2, bel_rowsO, bel_rowsB, bel_bufs, rowsO_length, tab_length, bel_bufI, bel_curs]) (by simp [bel_int, bel_bool, bel_str, bel_nilp, bel_nili, bel_nilf, bel_nilm, bel_dead, bel_agg, bel_tup, bel_sl, bel_fp, bel_buf, bel_ptr, bel_mp, bel_ifc, bel_fn, bel_opt, belAll_nil, belAll_cons, belO_cells, belO_dead, belO_unborn, belObs_nil, belObs_cons, belObs_append, belAll_tab, belObs_tab, belObs_tabN, bel_rowsT, belT, belP, bel_slI, bel_slL, bel_slP, bel_ints, bel_Ps, bel_Ls, bel_encN, bel_nils, bel_mid1, bel_mid2, bel_rowsO, bel_rowsB, bel_bufs, rowsO_length, tab_length, bel_bufI, bel_curs])
    have := mid_next (n := t.ports.length) (a := j) (f := bufI t.ports.length)
    rw [List.append_nil, tab_succ, ← this]
    rfl
  obtain rfl : j = t.ports.length := by omega
  clear hge hj
  refine T.lp tok mixed cfg0 (fun (j : Nat) => dd 3 (kp 2 (dd 26 (kp 2 (sv (.int .i64 j) (dd 58 (nl))))))) (fun H0 (j : Nat) => .cells 0 (encT t) :: .cells 0 (tab t.ports.length (bufI t.ports.length)) :: rowsO t.ports.length t.ports.length (fun a b => (t.links.take j).any (lnk a b))) (fun (j : Nat) => j ≤ t.links.length) (fun (j : Nat) => t.links.length - j) (0) ?_ ?_ ?_
  · exact Nat.zero_le _
  · rw [mid_end]
    exact Gn.canon (J := []) (by first | rfl | (simp [encT, encP, encL, slI, slP, slL, rep_tab, tab_length, setO, tab_set, mid_set, row_zero]; done) | (simp [encT, encP, encL, slI, slP, slL, rep_tab, tab_length, setO, tab_set, mid_set, row_zero]; rfl)) (by simp [wk, slP, slL, slI, putT, kp, dd, sv, nl]) (by simp [tab_length, rowsO_length]) (by simp [bel_int, bel_bool, bel_str, bel_nilp, bel_nili, bel_nilf, bel_nilm, bel_dead, bel_agg, bel_tup, bel_sl, bel_fp, bel_buf, bel_ptr, bel_mp, bel_ifc, bel_fn, bel_opt, belAll_nil, belAll_cons, belO_cells, belO_dead, belO_unborn, belObs_nil, belObs_cons, belObs_append, belAll_tab, belObs_tab, belObs_tabN, bel_rowsT, belT, belP, bel_slI, bel_slL, bel_slP, bel_ints, bel_Ps, bel_Ls, bel_encN, bel_nils, bel_mid1, bel_mid2, bel_rowsO, bel_rowsB, bel_bufs, rowsO_length, tab_length, bel_bufI, bel_curs, kp, dd, sv, nl]) (by simp [bel_int, bel_bool, bel_str, bel_nilp, bel_nili, bel_nilf, bel_nilm, bel_dead, bel_agg, bel_tup, bel_sl, bel_fp, bel_buf, bel_ptr, bel_mp, bel_ifc, bel_fn, bel_opt, belAll_nil, belAll_cons, belO_cells, belO_dead, belO_unborn, belObs_nil, belObs_cons, belObs_append, belAll_tab, belObs_tab, belObs_tabN, bel_rowsT, belT, belP, bel_slI, bel_slL, bel_slP, bel_ints, bel_Ps, bel_Ls, bel_encN, bel_nils, bel_mid1, bel_mid2, bel_rowsO, bel_rowsB, bel_bufs, rowsO_length, tab_length, bel_bufI, bel_curs])
  intro j hj
  by_cases hlt : j < t.links.length
  · obtain ⟨x, y, hx, hy, hxn, hyn, hxy⟩ := chk_links h0 (List.getElem_mem hlt)
    have hyx : ¬ y = x := fun h => hxy h.symm
    simp (config := { maxSteps := 2000000 }) -implicitDefEqProofs +contextual (disch := first | assumption | omega | decide +kernel) only [push_cast, ↓capI, br2_true, br2_false, frk_tt, frk_tf, frk_f, frkD_tt, frkD_tf, frkD_f, pk2_true, pk2_false, imp_true, Nat.reduceAdd, Nat.reduceSub, Nat.reduceMul, Nat.reduceLeDiff, Nat.reduceLT, reduceCtorEq, ↓reduceIte, Nat.reduceEqDiff, Nat.reduceSub, Nat.reduceMul, Int.reduceNeg, Int.reduceLT, Int.reduceLE, Int.reduceAdd, Int.reduceSub, Int.reduceMul, Int.reduceEq, Int.reduceToNat, Nat.reduceDiv, Nat.reduceMod, Nat.reduceBEq, Nat.reduceBNe, reduceCtorEq, tt_26, tt_32, tt_22, tt_23, tt_24, tt_3, tt_4, tt_42, tt_29, tt_38, tt_53, tt_54, encT, encP, encL, slI, slP, slL, cfg0, eqP, Nat.mul_one, tab_length, mid_at, putV_tab, mid_set, getV_tabP, place_tabN, place_tab0, place_tabK, getO_tab, getO_tab0, getO_tabK, getO_tabN, setO_tab, setO_tab0, setO_tabK, setO_tabN, len_flat lenL, len_flat lenP, get_flat_part lenL, rowsO, bufI, hlt, hx, hy, hxn, hyn, hyx]
    refine ⟨fun hd => ?_, fun hd => ?_⟩
    · refine ⟨j + 1, hlt, by (try simp only); omega, ?_⟩
      refine Gn.canon (J := [.cells 0 (encL t.links[j])]) ?_ (by simp [wk, slP, slL, slI]) (by simp [tab_length]) (by simp [bel_int, bel_bool, bel_str, bel_nilp, bel_nili, bel_nilf, bel_nilm, bel_dead, bel_agg, bel_tup, bel_sl, bel_fp, bel_buf, bel_ptr, bel_mp, bel_ifc, bel_fn, bel_opt, belAll_nil, belAll_cons, belO_cells, belO_dead, belO_unborn, belObs_nil, belObs_cons, belObs_append, belAll_tab, belObs_tab, belObs_tabN, bel_rowsT, belT, belP, bel_slI, bel_slL, bel_slP, bel_ints, bel_Ps, bel_Ls, bel_encN, bel_nils, bel_mid1, bel_mid2, bel_rowsO, bel_rowsB, bel_bufs, rowsO_length, tab_length, bel_bufI, bel_curs]) (by simp [bel_int, bel_bool, bel_str, bel_nilp, bel_nili, bel_nilf, bel_nilm, bel_dead, bel_agg, bel_tup, bel_sl, bel_fp, bel_buf, bel_ptr, bel_mp, bel_ifc, bel_fn, bel_opt, belAll_nil, belAll_cons, belO_cells, belO_dead, belO_unborn, belObs_nil, belObs_cons, belObs_append, belAll_tab, belObs_tab, belObs_tabN, bel_rowsT, belT, belP, bel_slI, bel_slL, bel_slP, bel_ints, bel_Ps, bel_Ls, bel_encN, bel_nils, bel_mid1, bel_mid2, bel_rowsO, bel_rowsB, bel_bufs, rowsO_length, tab_length, bel_bufI, bel_curs])
      simp only [List.cons_append, List.nil_append]
      rw [mat_next (f := fun a b => (t.links.take j).any (lnk a b)) (g := fun a b => (t.links.take (j + 1)).any (lnk a b)) hyx]
      · simp only [encL, hx, hy, hd]
        rfl
      · intro a b
        rw [any_take hlt]
        simp only [lnk, hx, hy, hd, Int.natCast_inj, Bool.not_false, Bool.true_and]
    · refine ⟨j + 1, hlt, by (try simp only); omega, ?_⟩
      refine Gn.canon (J := [.cells 0 (encL t.links[j])]) ?_ (by simp [wk, slP, slL, slI]) (by simp [tab_length]) (by simp [bel_int, bel_bool, bel_str, bel_nilp, bel_nili, bel_nilf, bel_nilm, bel_dead, bel_agg, bel_tup, bel_sl, bel_fp, bel_buf, bel_ptr, bel_mp, bel_ifc, bel_fn, bel_opt, belAll_nil, belAll_cons, belO_cells, belO_dead, belO_unborn, belObs_nil, belObs_cons, belObs_append, belAll_tab, belObs_tab, belObs_tabN, bel_rowsT, belT, belP, bel_slI, bel_slL, bel_slP, bel_ints, bel_Ps, bel_Ls, bel_encN, bel_nils, bel_mid1, bel_mid2, bel_rowsO, bel_rowsB, bel_bufs, rowsO_length, tab_length, bel_bufI, bel_curs]) (by simp [bel_int, bel_bool, bel_str, bel_nilp, bel_nili, bel_nilf, bel_nilm, bel_dead, bel_agg, bel_tup, bel_sl, bel_fp, bel_buf, bel_ptr, bel_mp, bel_ifc, bel_fn, bel_opt, belAll_nil, belAll_cons, belO_cells, belO_dead, belO_unborn, belObs_nil, belObs_cons, belObs_append, belAll_tab, belObs_tab, belObs_tabN, bel_rowsT, belT, belP, bel_slI, bel_slL, bel_slP, bel_ints, bel_Ps, bel_Ls, bel_encN, bel_nils, bel_mid1, bel_mid2, bel_rowsO, bel_rowsB, bel_bufs, rowsO_length, tab_length, bel_bufI, bel_curs])
      simp only [List.cons_append, List.nil_append, encL, hx, hy, hd]
      congr 2
      refine congrArg (· ++ _) (tab_ext fun k _ => congrArg (Ob.cells 0) (tab_ext fun m _ => ?_))
      rw [any_take hlt]
      simp [lnk, hd]
  obtain rfl : j = t.links.length := by omega
  simp (config := { maxSteps := 2000000 }) -implicitDefEqProofs +contextual (disch := first | assumption | omega | decide +kernel) only [push_cast, ↓capI, br2_true, br2_false, frk_tt, frk_tf, frk_f, frkD_tt, frkD_tf, frkD_f, pk2_true, pk2_false, imp_true, Nat.reduceAdd, Nat.reduceSub, Nat.reduceMul, Nat.reduceLeDiff, Nat.reduceLT, reduceCtorEq, ↓reduceIte, Nat.reduceEqDiff, Nat.reduceSub, Nat.reduceMul, Int.reduceNeg, Int.reduceLT, Int.reduceLE, Int.reduceAdd, Int.reduceSub, Int.reduceMul, Int.reduceEq, Int.reduceToNat, Nat.reduceDiv, Nat.reduceMod, Nat.reduceBEq, Nat.reduceBNe, reduceCtorEq, tt_26, tt_32, tt_22, tt_23, tt_24, tt_3, tt_4, tt_42, tt_29, tt_38, tt_53, tt_54, encT, encP, encL, slI, slP, slL, cfg0, eqP, Nat.mul_one, tab_length, mid_at, putV_tab, mid_set, getV_tabP, place_tabN, place_tab0, place_tabK, getO_tab, getO_tab0, getO_tabK, getO_tabN, setO_tab, setO_tab0, setO_tabK, setO_tabN, len_flat lenL, len_flat lenP, get_flat_part lenL, rowsO, bufI]
  refine T.lp tok mixed cfg0 (fun (a : Nat) => dd 3 (kp 2 (dd 3 (kp 1 (dd 55 (kp 1 (sv (.int .i64 a) (dd 26 (nl))))))))) (fun H0 (a : Nat) => .cells 0 (encT t) :: .cells 0 (tab t.ports.length (bufI t.ports.length)) :: (rowsO t.ports.length t.ports.length (fun a b => t.links.any (lnk a b)) ++ [.cells 0 (tab t.ports.length (mid a (rowV t t.ports.length) (.sl true [] 0)))])) (fun (a : Nat) => a ≤ t.ports.length) (fun (a : Nat) => t.ports.length - a) (0) ?_ ?_ ?_
  · exact Nat.zero_le _
  · rw [mid_zero]
    refine Gn.canon (J := []) ?_ (by simp [wk, slP, slL, slI, putT, kp, dd, sv, nl]) (by simp [tab_length, rowsO_length]) (by simp [bel_int, bel_bool, bel_str, bel_nilp, bel_nili, bel_nilf, bel_nilm, bel_dead, bel_agg, bel_tup, bel_sl, bel_fp, bel_buf, bel_ptr, bel_mp, bel_ifc, bel_fn, bel_opt, belAll_nil, belAll_cons, belO_cells, belO_dead, belO_unborn, belObs_nil, belObs_cons, belObs_append, belAll_tab, belObs_tab, belObs_tabN, bel_rowsT, belT, belP, bel_slI, bel_slL, bel_slP, bel_ints, bel_Ps, bel_Ls, bel_encN, bel_nils, bel_mid1, bel_mid2, bel_rowsO, bel_rowsB, bel_bufs, rowsO_length, tab_length, bel_bufI, bel_curs, kp, dd, sv, nl]) (by simp [bel_int, bel_bool, bel_str, bel_nilp, bel_nili, bel_nilf, bel_nilm, bel_dead, bel_agg, bel_tup, bel_sl, bel_fp, bel_buf, bel_ptr, bel_mp, bel_ifc, bel_fn, bel_opt, belAll_nil, belAll_cons, belO_cells, belO_dead, belO_unborn, belObs_nil, belObs_cons, belObs_append, belAll_tab, belObs_tab, belObs_tabN, bel_rowsT, belT, belP, bel_slI, bel_slL, bel_slP, bel_ints, bel_Ps, bel_Ls, bel_encN, bel_nils, bel_mid1, bel_mid2, bel_rowsO, bel_rowsB, bel_bufs, rowsO_length, tab_length, bel_bufI, bel_curs])
    rw [List.take_length]
    simp [encT, encP, encL, slI, slP, slL, rep_tab, tab_length, setO, tab_set, mid_set, row_zero, rowsO]
  intro a ha
  by_cases hlt : a < t.ports.length
  · simp (config := { maxSteps := 2000000 }) -implicitDefEqProofs +contextual (disch := first | assumption | omega | decide +kernel) only [push_cast, ↓capI, br2_true, br2_false, frk_tt, frk_tf, frk_f, frkD_tt, frkD_tf, frkD_f, pk2_true, pk2_false, imp_true, Nat.reduceAdd, Nat.reduceSub, Nat.reduceMul, Nat.reduceLeDiff, Nat.reduceLT, reduceCtorEq, ↓reduceIte, Nat.reduceEqDiff, Nat.reduceSub, Nat.reduceMul, Int.reduceNeg, Int.reduceLT, Int.reduceLE, Int.reduceAdd, Int.reduceSub, Int.reduceMul, Int.reduceEq, Int.reduceToNat, Nat.reduceDiv, Nat.reduceMod, Nat.reduceBEq, Nat.reduceBNe, reduceCtorEq, tt_26, tt_32, tt_22, tt_23, tt_24, tt_3, tt_4, tt_42, tt_29, tt_38, tt_53, tt_54, encT, encP, encL, slI, slP, slL, cfg0, eqP, Nat.mul_one, tab_length, mid_at, putV_tab, mid_set, getV_tabP, place_tabN, place_tab0, place_tabK, getO_tab, getO_tab0, getO_tabK, getO_tabN, setO_tab, setO_tab0, setO_tabK, setO_tabN, len_flat lenL, len_flat lenP, get_flat_part lenL, rowsO, bufI, hlt]
    refine T.lp tok mixed cfg0 (fun ((b, ver) : Nat × Nat) => dd 3 (kp 2 (dd 3 (kp 2 (dd 54 (kp 2 (dd 2 (kp 1 (sv (.int .i64 b) (dd 22 (nl))))))))))) (fun H0 ((b, ver) : Nat × Nat) => .cells 0 (encT t) :: .cells 0 (tab t.ports.length (bufI t.ports.length)) :: (rowsO t.ports.length t.ports.length (fun a b => t.links.any (lnk a b)) ++ [.cells 0 (tab t.ports.length (mid a (rowV t t.ports.length) (.buf (t.ports.length + 3) ver 0 (row t a b).length 1))), .cells ver ((row t a b).map (V.int .i64))])) (fun ((b, ver) : Nat × Nat) => b ≤ t.ports.length) (fun ((b, ver) : Nat × Nat) => t.ports.length - b) ((0, 0)) ?_ ?_ ?_
    · exact Nat.zero_le _
    · refine (Gn.ownCell (id := t.ports.length + 2) (i := a) (sz := 1) (ver := 0) (l := tab t.ports.length (mid a (rowV t t.ports.length) (.sl true [] 0))) (by simp (config := { maxSteps := 2000000 }) -implicitDefEqProofs +contextual (disch := first | assumption | omega | decide +kernel) only [push_cast, ↓capI, br2_true, br2_false, frk_tt, frk_tf, frk_f, frkD_tt, frkD_tf, frkD_f, pk2_true, pk2_false, imp_true, Nat.reduceAdd, Nat.reduceSub, Nat.reduceMul, Nat.reduceLeDiff, Nat.reduceLT, reduceCtorEq, ↓reduceIte, Nat.reduceEqDiff, Nat.reduceSub, Nat.reduceMul, Int.reduceNeg, Int.reduceLT, Int.reduceLE, Int.reduceAdd, Int.reduceSub, Int.reduceMul, Int.reduceEq, Int.reduceToNat, Nat.reduceDiv, Nat.reduceMod, Nat.reduceBEq, Nat.reduceBNe, reduceCtorEq, tt_26, tt_32, tt_22, tt_23, tt_24, tt_3, tt_4, tt_42, tt_29, tt_38, tt_53, tt_54, encT, encP, encL, slI, slP, slL, cfg0, eqP, Nat.mul_one, tab_length, mid_at, putV_tab, mid_set, getV_tabP, place_tabN, place_tab0, place_tabK, getO_tab, getO_tab0, getO_tabK, getO_tabN, setO_tab, setO_tab0, setO_tabK, setO_tabN, len_flat lenL, len_flat lenP, get_flat_part lenL, rowsO]) (by rw [tab_get hlt, mid_at])).trans ?_
      refine Gn.canon (J := []) ?_ (by simp [wk, slP, slL, slI, putT, kp, dd, sv, nl]) (by simp [tab_length, rowsO_length]) (by simp [bel_int, bel_bool, bel_str, bel_nilp, bel_nili, bel_nilf, bel_nilm, bel_dead, bel_agg, bel_tup, bel_sl, bel_fp, bel_buf, bel_ptr, bel_mp, bel_ifc, bel_fn, bel_opt, belAll_nil, belAll_cons, belO_cells, belO_dead, belO_unborn, belObs_nil, belObs_cons, belObs_append, belAll_tab, belObs_tab, belObs_tabN, bel_rowsT, belT, belP, bel_slI, bel_slL, bel_slP, bel_ints, bel_Ps, bel_Ls, bel_encN, bel_nils, bel_mid1, bel_mid2, bel_rowsO, bel_rowsB, bel_bufs, rowsO_length, tab_length, bel_bufI, bel_curs, kp, dd, sv, nl]) (by simp [bel_int, bel_bool, bel_str, bel_nilp, bel_nili, bel_nilf, bel_nilm, bel_dead, bel_agg, bel_tup, bel_sl, bel_fp, bel_buf, bel_ptr, bel_mp, bel_ifc, bel_fn, bel_opt, belAll_nil, belAll_cons, belO_cells, belO_dead, belO_unborn, belObs_nil, belObs_cons, belObs_append, belAll_tab, belObs_tab, belObs_tabN, bel_rowsT, belT, belP, bel_slI, bel_slL, bel_slP, bel_ints, bel_Ps, bel_Ls, bel_encN, bel_nils, bel_mid1, bel_mid2, bel_rowsO, bel_rowsB, bel_bufs, rowsO_length, tab_length, bel_bufI, bel_curs])
      simp [encT, encP, encL, slI, slP, slL, rep_tab, tab_length, setO, tab_set, mid_set, row_zero, rowsO, setO_tab0]
    rintro ⟨b, ver⟩ hb
    by_cases hlt2 : b < t.ports.length
    · have := row_length (t := t) (a := a) (b := b)
      simp (config := { maxSteps := 2000000 }) -implicitDefEqProofs +contextual (disch := first | assumption | omega | decide +kernel) only [push_cast, ↓capI, br2_true, br2_false, frk_tt, frk_tf, frk_f, frkD_tt, frkD_tf, frkD_f, pk2_true, pk2_false, imp_true, Nat.reduceAdd, Nat.reduceSub, Nat.reduceMul, Nat.reduceLeDiff, Nat.reduceLT, reduceCtorEq, ↓reduceIte, Nat.reduceEqDiff, Nat.reduceSub, Nat.reduceMul, Int.reduceNeg, Int.reduceLT, Int.reduceLE, Int.reduceAdd, Int.reduceSub, Int.reduceMul, Int.reduceEq, Int.reduceToNat, Nat.reduceDiv, Nat.reduceMod, Nat.reduceBEq, Nat.reduceBNe, reduceCtorEq, tt_26, tt_32, tt_22, tt_23, tt_24, tt_3, tt_4, tt_42, tt_29, tt_38, tt_53, tt_54, encT, encP, encL, slI, slP, slL, cfg0, eqP, Nat.mul_one, tab_length, mid_at, putV_tab, mid_set, getV_tabP, place_tabN, place_tab0, place_tabK, getO_tab, getO_tab0, getO_tabK, getO_tabN, setO_tab, setO_tab0, setO_tabK, setO_tabN, len_flat lenL, len_flat lenP, get_flat_part lenL, rowsO, bufI, hlt, hlt2]
      refine ⟨fun hl => ?_, fun hl => ?_⟩
      · refine ⟨(b + 1, ver + 1), hlt2, by (try simp only); omega, ?_⟩
        refine Gn.canon (J := []) ?_ (by simp [wk, slP, slL, slI]) (by simp [tab_length, rowsO_length]) (by simp [bel_int, bel_bool, bel_str, bel_nilp, bel_nili, bel_nilf, bel_nilm, bel_dead, bel_agg, bel_tup, bel_sl, bel_fp, bel_buf, bel_ptr, bel_mp, bel_ifc, bel_fn, bel_opt, belAll_nil, belAll_cons, belO_cells, belO_dead, belO_unborn, belObs_nil, belObs_cons, belObs_append, belAll_tab, belObs_tab, belObs_tabN, bel_rowsT, belT, belP, bel_slI, bel_slL, bel_slP, bel_ints, bel_Ps, bel_Ls, bel_encN, bel_nils, bel_mid1, bel_mid2, bel_rowsO, bel_rowsB, bel_bufs, rowsO_length, tab_length, bel_bufI, bel_curs]) (by simp [bel_int, bel_bool, bel_str, bel_nilp, bel_nili, bel_nilf, bel_nilm, bel_dead, bel_agg, bel_tup, bel_sl, bel_fp, bel_buf, bel_ptr, bel_mp, bel_ifc, bel_fn, bel_opt, belAll_nil, belAll_cons, belO_cells, belO_dead, belO_unborn, belObs_nil, belObs_cons, belObs_append, belAll_tab, belObs_tab, belObs_tabN, bel_rowsT, belT, belP, bel_slI, bel_slL, bel_slP, bel_ints, bel_Ps, bel_Ls, bel_encN, bel_nils, bel_mid1, bel_mid2, bel_rowsO, bel_rowsB, bel_bufs, rowsO_length, tab_length, bel_bufI, bel_curs])
        simp [encT, encP, encL, slI, slP, slL, rep_tab, tab_length, setO, tab_set, mid_set, row_zero, row_succ, hl]
      · refine ⟨(b + 1, ver), hlt2, by (try simp only); omega, ?_⟩
        refine Gn.canon (J := []) ?_ (by simp [wk, slP, slL, slI]) (by simp [tab_length, rowsO_length]) (by simp [bel_int, bel_bool, bel_str, bel_nilp, bel_nili, bel_nilf, bel_nilm, bel_dead, bel_agg, bel_tup, bel_sl, bel_fp, bel_buf, bel_ptr, bel_mp, bel_ifc, bel_fn, bel_opt, belAll_nil, belAll_cons, belO_cells, belO_dead, belO_unborn, belObs_nil, belObs_cons, belObs_append, belAll_tab, belObs_tab, belObs_tabN, bel_rowsT, belT, belP, bel_slI, bel_slL, bel_slP, bel_ints, bel_Ps, bel_Ls, bel_encN, bel_nils, bel_mid1, bel_mid2, bel_rowsO, bel_rowsB, bel_bufs, rowsO_length, tab_length, bel_bufI, bel_curs]) (by simp [bel_int, bel_bool, bel_str, bel_nilp, bel_nili, bel_nilf, bel_nilm, bel_dead, bel_agg, bel_tup, bel_sl, bel_fp, bel_buf, bel_ptr, bel_mp, bel_ifc, bel_fn, bel_opt, belAll_nil, belAll_cons, belO_cells, belO_dead, belO_unborn, belObs_nil, belObs_cons, belObs_append, belAll_tab, belObs_tab, belObs_tabN, bel_rowsT, belT, belP, bel_slI, bel_slL, bel_slP, bel_ints, bel_Ps, bel_Ls, bel_encN, bel_nils, bel_mid1, bel_mid2, bel_rowsO, bel_rowsB, bel_bufs, rowsO_length, tab_length, bel_bufI, bel_curs])
        simp [encT, encP, encL, slI, slP, slL, rep_tab, tab_length, setO, tab_set, mid_set, row_zero, row_succ, hl]
    · obtain rfl : b = t.ports.length := by simp only at hb; omega
      simp (config := { maxSteps := 2000000 }) -implicitDefEqProofs +contextual (disch := first | assumption | omega | decide +kernel) only [push_cast, ↓capI, br2_true, br2_false, frk_tt, frk_tf, frk_f, frkD_tt, frkD_tf, frkD_f, pk2_true, pk2_false, imp_true, Nat.reduceAdd, Nat.reduceSub, Nat.reduceMul, Nat.reduceLeDiff, Nat.reduceLT, reduceCtorEq, ↓reduceIte, Nat.reduceEqDiff, Nat.reduceSub, Nat.reduceMul, Int.reduceNeg, Int.reduceLT, Int.reduceLE, Int.reduceAdd, Int.reduceSub, Int.reduceMul, Int.reduceEq, Int.reduceToNat, Nat.reduceDiv, Nat.reduceMod, Nat.reduceBEq, Nat.reduceBNe, reduceCtorEq, tt_26, tt_32, tt_22, tt_23, tt_24, tt_3, tt_4, tt_42, tt_29, tt_38, tt_53, tt_54, encT, encP, encL, slI, slP, slL, cfg0, eqP, Nat.mul_one, tab_length, mid_at, putV_tab, mid_set, getV_tabP, place_tabN, place_tab0, place_tabK, getO_tab, getO_tab0, getO_tabK, getO_tabN, setO_tab, setO_tab0, setO_tabK, setO_tabN, len_flat lenL, len_flat lenP, get_flat_part lenL, rowsO, bufI]
      refine ⟨a + 1, hlt, by (try simp only); omega, ?_⟩
      refine (Gn.freeze (id := t.ports.length + 3) (ver := ver) (l := (row t a t.ports.length).map (V.int .i64)) (by simp (config := { maxSteps := 2000000 }) -implicitDefEqProofs +contextual (disch := first | assumption | omega | decide +kernel) only [push_cast, ↓capI, br2_true, br2_false, frk_tt, frk_tf, frk_f, frkD_tt, frkD_tf, frkD_f, pk2_true, pk2_false, imp_true, Nat.reduceAdd, Nat.reduceSub, Nat.reduceMul, Nat.reduceLeDiff, Nat.reduceLT, reduceCtorEq, ↓reduceIte, Nat.reduceEqDiff, Nat.reduceSub, Nat.reduceMul, Int.reduceNeg, Int.reduceLT, Int.reduceLE, Int.reduceAdd, Int.reduceSub, Int.reduceMul, Int.reduceEq, Int.reduceToNat, Nat.reduceDiv, Nat.reduceMod, Nat.reduceBEq, Nat.reduceBNe, reduceCtorEq, tt_26, tt_32, tt_22, tt_23, tt_24, tt_3, tt_4, tt_42, tt_29, tt_38, tt_53, tt_54, encT, encP, encL, slI, slP, slL, cfg0, eqP, Nat.mul_one, tab_length, mid_at, putV_tab, mid_set, getV_tabP, place_tabN, place_tab0, place_tabK, getO_tab, getO_tab0, getO_tabK, getO_tabN, setO_tab, setO_tab0, setO_tabK, setO_tabN, len_flat lenL, len_flat lenP, get_flat_part lenL, rowsO])).trans ?_
      refine Gn.canon (J := [.dead]) ?_ ?_ (by simp [tab_length, rowsO_length]) (by simp [bel_int, bel_bool, bel_str, bel_nilp, bel_nili, bel_nilf, bel_nilm, bel_dead, bel_agg, bel_tup, bel_sl, bel_fp, bel_buf, bel_ptr, bel_mp, bel_ifc, bel_fn, bel_opt, belAll_nil, belAll_cons, belO_cells, belO_dead, belO_unborn, belObs_nil, belObs_cons, belObs_append, belAll_tab, belObs_tab, belObs_tabN, bel_rowsT, belT, belP, bel_slI, bel_slL, bel_slP, bel_ints, bel_Ps, bel_Ls, bel_encN, bel_nils, bel_mid1, bel_mid2, bel_rowsO, bel_rowsB, bel_bufs, rowsO_length, tab_length, bel_bufI, bel_curs]) (by simp [bel_int, bel_bool, bel_str, bel_nilp, bel_nili, bel_nilf, bel_nilm, bel_dead, bel_agg, bel_tup, bel_sl, bel_fp, bel_buf, bel_ptr, bel_mp, bel_ifc, bel_fn, bel_opt, belAll_nil, belAll_cons, belO_cells, belO_dead, belO_unborn, belObs_nil, belObs_cons, belObs_append, belAll_tab, belObs_tab, belObs_tabN, bel_rowsT, belT, belP, bel_slI, bel_slL, bel_slP, bel_ints, bel_Ps, bel_Ls, bel_encN, bel_nils, bel_mid1, bel_mid2, bel_rowsO, bel_rowsB, bel_bufs, rowsO_length, tab_length, bel_bufI, bel_curs])
      · simp [fzH, fzH_append, fzs_lt, fzH_lt, fz_mid, setO, setO_tabK, bel_int, bel_bool, bel_str, bel_nilp, bel_nili, bel_nilf, bel_nilm, bel_dead, bel_agg, bel_tup, bel_sl, bel_fp, bel_buf, bel_ptr, bel_mp, bel_ifc, bel_fn, bel_opt, belAll_nil, belAll_cons, belO_cells, belO_dead, belO_unborn, belObs_nil, belObs_cons, belObs_append, belAll_tab, belObs_tab, belObs_tabN, bel_rowsT, belT, belP, bel_slI, bel_slL, bel_slP, bel_ints, bel_Ps, bel_Ls, bel_encN, bel_nils, bel_mid1, bel_mid2, bel_rowsO, bel_rowsB, bel_bufs, rowsO_length, tab_length, bel_bufI, bel_curs]
        rw [← mid_next]
        rfl
      · simp [wk, slP, slL, slI, fzs, fz_lt, bel_int, bel_bool, bel_str, bel_nilp, bel_nili, bel_nilf, bel_nilm, bel_dead, bel_agg, bel_tup, bel_sl, bel_fp, bel_buf, bel_ptr, bel_mp, bel_ifc, bel_fn, bel_opt, belAll_nil, belAll_cons, belO_cells, belO_dead, belO_unborn, belObs_nil, belObs_cons, belObs_append, belAll_tab, belObs_tab, belObs_tabN, bel_rowsT, belT, belP, bel_slI, bel_slL, bel_slP, bel_ints, bel_Ps, bel_Ls, bel_encN, bel_nils, bel_mid1, bel_mid2, bel_rowsO, bel_rowsB, bel_bufs, rowsO_length, tab_length, bel_bufI, bel_curs]
  · obtain rfl : a = t.ports.length := by omega
    simp (config := { maxSteps := 2000000 }) -implicitDefEqProofs +contextual (disch := first | assumption | omega | decide +kernel) only [push_cast, ↓capI, br2_true, br2_false, frk_tt, frk_tf, frk_f, frkD_tt, frkD_tf, frkD_f, pk2_true, pk2_false, imp_true, Nat.reduceAdd, Nat.reduceSub, Nat.reduceMul, Nat.reduceLeDiff, Nat.reduceLT, reduceCtorEq, ↓reduceIte, Nat.reduceEqDiff, Nat.reduceSub, Nat.reduceMul, Int.reduceNeg, Int.reduceLT, Int.reduceLE, Int.reduceAdd, Int.reduceSub, Int.reduceMul, Int.reduceEq, Int.reduceToNat, Nat.reduceDiv, Nat.reduceMod, Nat.reduceBEq, Nat.reduceBNe, reduceCtorEq, tt_26, tt_32, tt_22, tt_23, tt_24, tt_3, tt_4, tt_42, tt_29, tt_38, tt_53, tt_54, encT, encP, encL, slI, slP, slL, cfg0, eqP, Nat.mul_one, tab_length, mid_at, putV_tab, mid_set, getV_tabP, place_tabN, place_tab0, place_tabK, getO_tab, getO_tab0, getO_tabK, getO_tabN, setO_tab, setO_tab0, setO_tabK, setO_tabN, len_flat lenL, len_flat lenP, get_flat_part lenL, rowsO, bufI]
    refine endK.gn (Gn.freeze (id := t.ports.length + 2) (ver := 0) (l := tab t.ports.length (mid t.ports.length (rowV t t.ports.length) (.sl true [] 0))) (by simp (config := { maxSteps := 2000000 }) -implicitDefEqProofs +contextual (disch := first | assumption | omega | decide +kernel) only [push_cast, ↓capI, br2_true, br2_false, frk_tt, frk_tf, frk_f, frkD_tt, frkD_tf, frkD_f, pk2_true, pk2_false, imp_true, Nat.reduceAdd, Nat.reduceSub, Nat.reduceMul, Nat.reduceLeDiff, Nat.reduceLT, reduceCtorEq, ↓reduceIte, Nat.reduceEqDiff, Nat.reduceSub, Nat.reduceMul, Int.reduceNeg, Int.reduceLT, Int.reduceLE, Int.reduceAdd, Int.reduceSub, Int.reduceMul, Int.reduceEq, Int.reduceToNat, Nat.reduceDiv, Nat.reduceMod, Nat.reduceBEq, Nat.reduceBNe, reduceCtorEq, tt_26, tt_32, tt_22, tt_23, tt_24, tt_3, tt_4, tt_42, tt_29, tt_38, tt_53, tt_54, encT, encP, encL, slI, slP, slL, cfg0, eqP, Nat.mul_one, tab_length, mid_at, putV_tab, mid_set, getV_tabP, place_tabN, place_tab0, place_tabK, getO_tab, getO_tab0, getO_tabK, getO_tabN, setO_tab, setO_tab0, setO_tabK, setO_tabN, len_flat lenL, len_flat lenP, get_flat_part lenL, rowsO])) (endK.ret ?_ bel_encN)
    simp [evRes, getT, retV, Try.f19, fzs, fz, mid_end, encN, h0, slLL, nbrs]
    rw [List.take_of_length_le (by rw [tab_length]; exact Nat.le_refl _), tab_map, tab_length]
    exact ⟨rfl, rfl⟩
end Go.Proofs.Ytpjbeoilmmhinaa

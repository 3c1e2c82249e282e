/-
  Joined by a program from the texts Trim Prn Prs Prp Prq Fmt Fmt2 Fmt3 Fmt4 Txt Par.
-/
import Derived.Test.YtginpkchjeooeaaDoorMb
import Derived.Test.YtginpkchjeooeaaDoorVm8
import Derived.Test.YtginpkchjeooeaaDoorMa
import Derived.Test.YtginpkchjeooeaaDoorVm9
/- Chapter 44: the digits at the beginning of a text. -/
set_option maxRecDepth 100000
set_option maxHeartbeats 4000000
set_option linter.all false
namespace Go.Proofs.YtginpkchjeooeaaDoor
open Go.Vm

theorem putV_all : ∀ (l cs : List V), l.length = cs.length → putV l 0 cs = cs
  | [], [], _ => rfl
  | x :: l, c :: cs, h => by simp only [putV, putV_all l cs (by simpa using h)]
  | [], c :: cs, h => by simp at h
  | x :: l, [], h => by simp at h
def dgT (n : Nat) : List V := tab 256 fun j => .bool (decide (48 ≤ j) && decide (j < 48 + n))
theorem bel_T {m n : Nat} : belAll m (dgT n) = true := belAll_tab fun _ _ => rfl
theorem rn_T {q : Nat → Nat} {n : Nat} : rns q (dgT n) = dgT n := by
  rw [dgT, rns_map, tab_map]
  rfl
theorem pg99 (c : UInt8) : GCall Tryd.prog 89 [.ptr 0 0 0, .int .u8 c.toNat] [.cells 0 (dgT 10)] (.bool (isDig c)) [.cells 0 (dgT 10)] := by
  have hc := c.toNat_lt
  have hd : (decide (48 ≤ c.toNat) && decide (c.toNat < 58)) = isDig c := by
    rw [isDig]
    congr 1
    rw [decide_eq_decide]
    omega
  unfold dgT
  refine GC.walk tok mixed cfg0 Tryd.func89 rfl Tryd.call89 ?_; simp (maxSteps := 2000000) -implicitDefEqProofs +contextual (disch := first | assumption | omega | decide +kernel) only [push_cast, ↓capI, br2_true, br2_false, frk_tt, frk_tf, frk_f, frkD_tt, frkD_tf, frkD_f, pk2_true, pk2_false, imp_true, seval, Nat.reduceLeDiff, Nat.reduceEqDiff, reduceCtorEq, ↓reduceIte, cfg0, take_rest, ibeq_dec, V.rn, rns, qn, setPs, rnOs, Ob.rn, List.set_cons_zero, List.size_toArray, setO_tabN, getV_tabP, getV_tab, getV_tabO, tab_length, tab_set, Tryd.ntmps89]
  refine endG.ret ([]) (by first | rfl | simp [bel_T, fzs_ok, getO, setO, fzs, fz, fzH, Nat.beq, tt_3, tt_4, tt_5, tt_9, tt_91, tt_112, tt_115, tt_117, tt_133, tt_111, tt_124, tt_107, cfg0, take_rest, ibeq_dec, V.rn, rns, qn, setPs, rnOs, Ob.rn, List.set_cons_zero, List.size_toArray, setO_tabN, getV_tabP, getV_tab, getV_tabO, tab_length, tab_set, hd, Nat.mul_one]) (by simp) (by simp [bel_T, fzs_ok, imp, lenOK_iff, List.take_of_length_le, evRes, getT, getO, setO, fzs, fz, fzH, Nat.beq, retV, Res.then, ldT, ldR, mkV, getV, tt_3, tt_4, tt_5, tt_9, tt_91, tt_112, tt_115, tt_117, tt_133, tt_111, tt_124, tt_107, cfg0, take_rest, ibeq_dec, V.rn, rns, qn, setPs, rnOs, Ob.rn, List.set_cons_zero, List.size_toArray, setO_tabN, getV_tabP, getV_tab, getV_tabO, tab_length, tab_set, Tryd.f89, hd, Nat.mul_one]) (by first | rfl | simp [bel_T, hd, Nat.mul_one]) (by first | rfl | simp [bel_T, hd, Nat.mul_one])
def digs0 : List UInt8 := [48, 49, 50, 51, 52, 53, 54, 55, 56, 57]
def digs (s : List UInt8) : List UInt8 := s.takeWhile isDig
def dropD (s : List UInt8) : List UInt8 := s.dropWhile isDig
theorem dropD_len (s : List UInt8) : (dropD s).length + (digs s).length = s.length := by
  have := congrArg List.length (List.takeWhile_append_dropWhile (p := isDig) (l := s))
  rw [List.length_append] at this
  unfold dropD digs
  omega
theorem take_digs (s : List UInt8) : s.take (s.length - (dropD s).length) = digs s ∧ s.drop (s.length - (dropD s).length) = dropD s := by
  have h := dropD_len s
  have e : s = digs s ++ dropD s := (List.takeWhile_append_dropWhile).symm
  have hk : s.length - (dropD s).length = (digs s).length := by omega
  rw [hk]
  generalize digs s = a at *
  generalize dropD s = b at *
  subst e
  exact ⟨List.take_left, List.drop_left⟩
theorem dropD_nil : dropD [] = [] := rfl
theorem dropD_yes {c : UInt8} {t : List UInt8} (h : isDig c = true) : dropD (c :: t) = dropD t := by rw [dropD, List.dropWhile_cons, if_pos h]; rfl
theorem dropD_no {c : UInt8} {t : List UInt8} (h : isDig c = false) : dropD (c :: t) = c :: t := by rw [dropD, List.dropWhile_cons, if_neg (by rw [h]; simp)]
theorem pg91 (s : List UInt8) : GCall Tryd.prog 77 [.str s, .ptr 0 0 0] [.cells 0 (dgT 10)] (.str (dropD s)) [.cells 0 (dgT 10)] := by
  refine GC.walk tok mixed cfg0 Tryd.func77 rfl Tryd.call77 ?_; simp (maxSteps := 2000000) -implicitDefEqProofs +contextual (disch := first | assumption | omega | decide +kernel) only [push_cast, ↓capI, br2_true, br2_false, frk_tt, frk_tf, frk_f, frkD_tt, frkD_tf, frkD_f, pk2_true, pk2_false, imp_true, seval, Nat.reduceLeDiff, Nat.reduceEqDiff, reduceCtorEq, ↓reduceIte, cfg0, take_rest, ibeq_dec, V.rn, rns, qn, setPs, rnOs, Ob.rn, List.set_cons_zero, List.size_toArray, setO_tabN, getV_tabP, getV_tab, getV_tabO, tab_length, tab_set, Tryd.ntmps77]
  refine T.lp tok mixed cfg0 (fun (r : List UInt8) => sv (.str r) (kp 1 (dd 14 (nl)))) (fun H0 (r : List UInt8) => [.cells 0 (dgT 10)]) (fun (r : List UInt8) => dropD r = dropD s) (fun (r : List UInt8) => r.length) (s) ?_ ?_ ?_
  · rfl
  · exact Gn.canon (J := []) (by first | rfl | (simp [List.append_nil]; done) | (simp [List.append_nil]; rfl)) (by simp [wk, putT, kp, dd, sv, nl]) (by simp [List.length_append]) (by simp [bel_T, kp, dd, sv, nl]) (by simp [bel_T])
  intro r hr
  cases r with
  | nil =>
    simp (maxSteps := 2000000) -implicitDefEqProofs +contextual (disch := first | assumption | omega | decide +kernel) only [push_cast, ↓capI, br2_true, br2_false, frk_tt, frk_tf, frk_f, frkD_tt, frkD_tf, frkD_f, pk2_true, pk2_false, imp_true, seval, Nat.reduceLeDiff, Nat.reduceEqDiff, reduceCtorEq, ↓reduceIte, cfg0, take_rest, ibeq_dec, V.rn, rns, qn, setPs, rnOs, Ob.rn, List.set_cons_zero, List.size_toArray, setO_tabN, getV_tabP, getV_tab, getV_tabO, tab_length, tab_set]
    rw [← hr]
    refine endG.ret ([]) (by first | rfl | simp [bel_T, fzs_ok, getO, setO, fzs, fz, fzH, Nat.beq, tt_3, tt_4, tt_5, tt_9, tt_91, tt_112, tt_115, tt_117, tt_133, tt_111, tt_124, tt_107, cfg0, take_rest, ibeq_dec, V.rn, rns, qn, setPs, rnOs, Ob.rn, List.set_cons_zero, List.size_toArray, setO_tabN, getV_tabP, getV_tab, getV_tabO, tab_length, tab_set, dropD_nil]) (by simp) (by simp [bel_T, fzs_ok, imp, lenOK_iff, List.take_of_length_le, evRes, getT, getO, setO, fzs, fz, fzH, Nat.beq, retV, Res.then, ldT, ldR, mkV, getV, tt_3, tt_4, tt_5, tt_9, tt_91, tt_112, tt_115, tt_117, tt_133, tt_111, tt_124, tt_107, cfg0, take_rest, ibeq_dec, V.rn, rns, qn, setPs, rnOs, Ob.rn, List.set_cons_zero, List.size_toArray, setO_tabN, getV_tabP, getV_tab, getV_tabO, tab_length, tab_set, Tryd.f77, dropD_nil]) (by first | rfl | simp [bel_T, dropD_nil]) (by first | rfl | simp [bel_T, dropD_nil])
  | cons c t =>
    have hlen : (c :: t).length = t.length + 1 := rfl
    simp (maxSteps := 2000000) -implicitDefEqProofs +contextual (disch := first | assumption | omega | decide +kernel) only [push_cast, ↓capI, br2_true, br2_false, frk_tt, frk_tf, frk_f, frkD_tt, frkD_tf, frkD_f, pk2_true, pk2_false, imp_true, seval, Nat.reduceLeDiff, Nat.reduceEqDiff, reduceCtorEq, ↓reduceIte, cfg0, take_rest, ibeq_dec, V.rn, rns, qn, setPs, rnOs, Ob.rn, List.set_cons_zero, List.size_toArray, setO_tabN, getV_tabP, getV_tab, getV_tabO, tab_length, tab_set, List.length_cons]
    refine callO.part0 [0] (pg99 c) (by decide) rfl rfl ⟨by simp [rnOs, Ob.rn, rn_T, getO], by simp, trivial⟩ ?_
    cases hd : isDig c
    · simp (maxSteps := 2000000) -implicitDefEqProofs +contextual (disch := first | assumption | omega | decide +kernel) only [push_cast, ↓capI, br2_true, br2_false, frk_tt, frk_tf, frk_f, frkD_tt, frkD_tf, frkD_f, pk2_true, pk2_false, imp_true, seval, Nat.reduceLeDiff, Nat.reduceEqDiff, reduceCtorEq, ↓reduceIte, cfg0, take_rest, ibeq_dec, V.rn, rns, qn, setPs, rnOs, Ob.rn, List.set_cons_zero, List.size_toArray, setO_tabN, getV_tabP, getV_tab, getV_tabO, tab_length, tab_set]
      rw [← hr]
      refine endG.ret ([]) (by first | rfl | simp [bel_T, fzs_ok, getO, setO, fzs, fz, fzH, Nat.beq, tt_3, tt_4, tt_5, tt_9, tt_91, tt_112, tt_115, tt_117, tt_133, tt_111, tt_124, tt_107, cfg0, take_rest, ibeq_dec, V.rn, rns, qn, setPs, rnOs, Ob.rn, List.set_cons_zero, List.size_toArray, setO_tabN, getV_tabP, getV_tab, getV_tabO, tab_length, tab_set, dropD_no hd]) (by simp) (by simp [bel_T, fzs_ok, imp, lenOK_iff, List.take_of_length_le, evRes, getT, getO, setO, fzs, fz, fzH, Nat.beq, retV, Res.then, ldT, ldR, mkV, getV, tt_3, tt_4, tt_5, tt_9, tt_91, tt_112, tt_115, tt_117, tt_133, tt_111, tt_124, tt_107, cfg0, take_rest, ibeq_dec, V.rn, rns, qn, setPs, rnOs, Ob.rn, List.set_cons_zero, List.size_toArray, setO_tabN, getV_tabP, getV_tab, getV_tabO, tab_length, tab_set, Tryd.f77, dropD_no hd]) (by first | rfl | simp [bel_T, dropD_no hd]) (by first | rfl | simp [bel_T, dropD_no hd])
    · simp (maxSteps := 2000000) -implicitDefEqProofs +contextual (disch := first | assumption | omega | decide +kernel) only [push_cast, ↓capI, br2_true, br2_false, frk_tt, frk_tf, frk_f, frkD_tt, frkD_tf, frkD_f, pk2_true, pk2_false, imp_true, seval, Nat.reduceLeDiff, Nat.reduceEqDiff, reduceCtorEq, ↓reduceIte, cfg0, take_rest, ibeq_dec, V.rn, rns, qn, setPs, rnOs, Ob.rn, List.set_cons_zero, List.size_toArray, setO_tabN, getV_tabP, getV_tab, getV_tabO, tab_length, tab_set]
      refine ⟨t, by rw [← hr, dropD_yes hd], by (try simp only); omega, ?_⟩; exact Gn.canon (by first | rfl | (simp [List.append_nil]; rfl)) (by simp [wk]) (by simp [List.length_append]) (by simp [bel_T]) (by simp [bel_T])
theorem hset (i : Nat) : (tab 256 fun j => if j = 48 + i then V.bool true else V.bool (decide (48 ≤ j) && decide (j < 48 + i))) = dgT (i + 1) := by
  refine tab_ext fun j _ => ?_
  split
  · rename_i h
    subst h
    simp
  · congr 2
    rw [decide_eq_decide]
    omega
theorem len_T {n : Nat} : (dgT n).length = 256 := tab_length
theorem ones_T {n : Nat} : ones true (dgT n) True = True := by
  rw [eq_iff_iff, ones_iff]
  refine ⟨fun _ => trivial, fun _ => ⟨fun _ x hx => ?_, trivial⟩⟩
  obtain ⟨i, _, rfl⟩ := tab_mem.1 hx
  rfl
theorem get_T {n : Nat} : getV (dgT n) 0 256 = dgT n := List.take_of_length_le (Nat.le_of_eq len_T)
theorem put_T {n : Nat} {l : List V} (h : l.length = 256) : putV l 0 (dgT n) = dgT n := putV_all _ _ (by rw [h, len_T])
theorem put_T0 {n : Nat} {g : Nat → V} : putV (tab 256 g) 0 (dgT n) = dgT n := put_T tab_length
theorem put1_T {i : Nat} : putV (dgT i) ((48 + i) * 1) [.bool true] = dgT (i + 1) := by rw [Nat.mul_one, dgT, putV_tab, hset]
theorem pc76 : PC Tryd.prog 76 [.str digs0] (.tup [.agg (dgT 10), .bool true]) := by
  have h0 : (tab 256 fun _ => V.bool false) = dgT 0 := by
    refine tab_ext fun j _ => ?_
    congr 1
    have : ¬ (48 ≤ j ∧ j < 48) := by omega
    simp
  refine PC.walk tok mixed cfg0 Tryd.func76 rfl Tryd.call76 (by simp [bel_T]) (by first | rfl | simp [bel_T]) ?_; simp (maxSteps := 2000000) -implicitDefEqProofs +contextual (disch := first | assumption | omega | decide +kernel) only [push_cast, ↓capI, br2_true, br2_false, frk_tt, frk_tf, frk_f, frkD_tt, frkD_tf, frkD_f, pk2_true, pk2_false, imp_true, seval, Nat.reduceLeDiff, Nat.reduceEqDiff, reduceCtorEq, ↓reduceIte, cfg0, take_rest, ibeq_dec, V.rn, rns, qn, setPs, rnOs, Ob.rn, List.set_cons_zero, List.size_toArray, setO_tabN, getV_tabP, getV_tab, getV_tabO, tab_length, tab_set, Tryd.ntmps76]
  simp (maxSteps := 2000000) -implicitDefEqProofs +contextual (disch := first | assumption | omega | decide +kernel) only [push_cast, ↓capI, br2_true, br2_false, frk_tt, frk_tf, frk_f, frkD_tt, frkD_tf, frkD_f, pk2_true, pk2_false, imp_true, seval, Nat.reduceLeDiff, Nat.reduceEqDiff, reduceCtorEq, ↓reduceIte, cfg0, take_rest, ibeq_dec, V.rn, rns, qn, setPs, rnOs, Ob.rn, List.set_cons_zero, List.size_toArray, setO_tabN, getV_tabP, getV_tab, getV_tabO, tab_length, tab_set, h0]
  refine T.lp tok mixed cfg0 (fun (i : Nat) => kp 1 (dd 1 (kp 1 (sv (.bool false) (sv (.int .i64 i) (dd 16 (nl))))))) (fun H0 (i : Nat) => [.cells 0 (dgT i)]) (fun (i : Nat) => i ≤ 10) (fun (i : Nat) => 10 - i) (0) ?_ ?_ ?_
  · exact Nat.zero_le _
  · exact Gn.canon (J := []) (by first | rfl | (simp [List.append_nil]; done) | (simp [List.append_nil]; rfl)) (by simp [wk, putT, kp, dd, sv, nl]) (by simp [List.length_append]) (by simp [bel_T, kp, dd, sv, nl]) (by simp [bel_T])
  intro i hi
  by_cases h : i < 10
  case neg =>
    have hi10 : i = 10 := by omega
    subst hi10
    simp (maxSteps := 2000000) -implicitDefEqProofs +contextual (disch := first | assumption | omega | decide +kernel) only [push_cast, ↓capI, br2_true, br2_false, frk_tt, frk_tf, frk_f, frkD_tt, frkD_tf, frkD_f, pk2_true, pk2_false, imp_true, seval, Nat.reduceLeDiff, Nat.reduceEqDiff, reduceCtorEq, ↓reduceIte, cfg0, take_rest, ibeq_dec, V.rn, rns, qn, setPs, rnOs, Ob.rn, List.set_cons_zero, List.size_toArray, setO_tabN, getV_tabP, getV_tab, getV_tabO, tab_length, tab_set, ones_T, get_T, len_T]
    refine endK.ret ?_ (by first | rfl | simp [bel_T]); simp [evRes, getT, retV, Tryd.f76,  put_T len_T, tt_107, ldT, ldR, mkV, getO, Nat.beq, len_T, get_T, imp, Res.then, ones_T, lenOK_iff]
  have hg : ((digs0.getD i 0).toNat : Int) = (48 : Int) + i := by
    have key : ∀ k : Fin 10, ((digs0.getD k.val 0).toNat : Int) = (48 : Int) + (k.val : Int) := by decide
    exact key ⟨i, h⟩
  have hl : digs0.length = 10 := rfl
  have hk : ((48 : Int) + i).toNat = 48 + i := by omega
  simp (maxSteps := 2000000) -implicitDefEqProofs +contextual (disch := first | assumption | omega | decide +kernel) only [push_cast, ↓capI, br2_true, br2_false, frk_tt, frk_tf, frk_f, frkD_tt, frkD_tf, frkD_f, pk2_true, pk2_false, imp_true, seval, Nat.reduceLeDiff, Nat.reduceEqDiff, reduceCtorEq, ↓reduceIte, cfg0, take_rest, ibeq_dec, V.rn, rns, qn, setPs, rnOs, Ob.rn, List.set_cons_zero, List.size_toArray, setO_tabN, getV_tabP, getV_tab, getV_tabO, tab_length, tab_set, hl, hg, hk, len_T, put1_T]
  refine ⟨i + 1, by omega, by (try simp only); omega, ?_⟩; exact Gn.canon (by first | rfl | (simp [List.append_nil]; rfl)) (by simp [wk]) (by simp [List.length_append]) (by simp [bel_T]) (by simp [bel_T])
theorem pc67 (s : List UInt8) : PC Tryd.prog 67 [.str s, .str digs0] (.str (dropD s)) := by
  have hne : (digs0 = []) = False := by decide
  have hl : digs0.length = 10 := rfl
  by_cases h : s = []
  · refine PC.walk tok mixed cfg0 Tryd.func67 rfl Tryd.call67 (by simp [bel_T]) (by first | rfl | simp [bel_T]) ?_; simp (maxSteps := 2000000) -implicitDefEqProofs +contextual (disch := first | assumption | omega | decide +kernel) only [push_cast, ↓capI, br2_true, br2_false, frk_tt, frk_tf, frk_f, frkD_tt, frkD_tf, frkD_f, pk2_true, pk2_false, imp_true, seval, Nat.reduceLeDiff, Nat.reduceEqDiff, reduceCtorEq, ↓reduceIte, cfg0, take_rest, ibeq_dec, V.rn, rns, qn, setPs, rnOs, Ob.rn, List.set_cons_zero, List.size_toArray, setO_tabN, getV_tabP, getV_tab, getV_tabO, tab_length, tab_set, Tryd.ntmps67]
    simp (maxSteps := 2000000) -implicitDefEqProofs +contextual (disch := first | assumption | omega | decide +kernel) only [push_cast, ↓capI, br2_true, br2_false, frk_tt, frk_tf, frk_f, frkD_tt, frkD_tf, frkD_f, pk2_true, pk2_false, imp_true, seval, Nat.reduceLeDiff, Nat.reduceEqDiff, reduceCtorEq, ↓reduceIte, cfg0, take_rest, ibeq_dec, V.rn, rns, qn, setPs, rnOs, Ob.rn, List.set_cons_zero, List.size_toArray, setO_tabN, getV_tabP, getV_tab, getV_tabO, tab_length, tab_set, h, hne]
    refine endK.ret ?_ (by first | rfl | simp [bel_T]); simp [evRes, getT, retV, Tryd.f67,  dropD_nil, h]
  refine PC.walk tok mixed cfg0 Tryd.func67 rfl Tryd.call67 (by simp [bel_T]) (by first | rfl | simp [bel_T]) ?_; simp (maxSteps := 2000000) -implicitDefEqProofs +contextual (disch := first | assumption | omega | decide +kernel) only [push_cast, ↓capI, br2_true, br2_false, frk_tt, frk_tf, frk_f, frkD_tt, frkD_tf, frkD_f, pk2_true, pk2_false, imp_true, seval, Nat.reduceLeDiff, Nat.reduceEqDiff, reduceCtorEq, ↓reduceIte, cfg0, take_rest, ibeq_dec, V.rn, rns, qn, setPs, rnOs, Ob.rn, List.set_cons_zero, List.size_toArray, setO_tabN, getV_tabP, getV_tab, getV_tabO, tab_length, tab_set, Tryd.ntmps67]
  simp (maxSteps := 2000000) -implicitDefEqProofs +contextual (disch := first | assumption | omega | decide +kernel) only [push_cast, ↓capI, br2_true, br2_false, frk_tt, frk_tf, frk_f, frkD_tt, frkD_tf, frkD_f, pk2_true, pk2_false, imp_true, seval, Nat.reduceLeDiff, Nat.reduceEqDiff, reduceCtorEq, ↓reduceIte, cfg0, take_rest, ibeq_dec, V.rn, rns, qn, setPs, rnOs, Ob.rn, List.set_cons_zero, List.size_toArray, setO_tabN, getV_tabP, getV_tab, getV_tabO, tab_length, tab_set, h, hne, hl]
  refine callO.pc pc76 ?_
  simp (maxSteps := 2000000) -implicitDefEqProofs +contextual (disch := first | assumption | omega | decide +kernel) only [push_cast, ↓capI, br2_true, br2_false, frk_tt, frk_tf, frk_f, frkD_tt, frkD_tf, frkD_f, pk2_true, pk2_false, imp_true, seval, Nat.reduceLeDiff, Nat.reduceEqDiff, reduceCtorEq, ↓reduceIte, cfg0, take_rest, ibeq_dec, V.rn, rns, qn, setPs, rnOs, Ob.rn, List.set_cons_zero, List.size_toArray, setO_tabN, getV_tabP, getV_tab, getV_tabO, tab_length, tab_set, len_T, ones_T, put_T0]
  refine callO.part0 [0] (pg91 s) (by decide) rfl rfl ⟨by simp [rnOs, Ob.rn, rn_T, getO], by simp, trivial⟩ ?_
  simp (maxSteps := 2000000) -implicitDefEqProofs +contextual (disch := first | assumption | omega | decide +kernel) only [push_cast, ↓capI, br2_true, br2_false, frk_tt, frk_tf, frk_f, frkD_tt, frkD_tf, frkD_f, pk2_true, pk2_false, imp_true, seval, Nat.reduceLeDiff, Nat.reduceEqDiff, reduceCtorEq, ↓reduceIte, cfg0, take_rest, ibeq_dec, V.rn, rns, qn, setPs, rnOs, Ob.rn, List.set_cons_zero, List.size_toArray, setO_tabN, getV_tabP, getV_tab, getV_tabO, tab_length, tab_set]
  refine endK.ret ?_ (by first | rfl | simp [bel_T]); simp [evRes, getT, retV, Tryd.f67]
end Go.Proofs.YtginpkchjeooeaaDoor

/- Digits at the beginning of a text, and the number that they are. -/
set_option maxRecDepth 100000
set_option maxHeartbeats 4000000
set_option linter.all false
namespace Go.Proofs.YtginpkchjeooeaaDoor
open Go.Vm
theorem digs_all (s : List UInt8) : ∀ c, c ∈ digs s → isDig c = true := by
  intro c hc
  induction s with
  | nil => cases hc
  | cons x s ih =>
    rw [digs, List.takeWhile_cons] at hc
    split at hc
    · rename_i h
      rcases List.mem_cons.1 hc with e | h2
      · rw [e]; exact h
      · exact ih h2
    · cases hc
theorem begins_cons {x c : UInt8} {l : List UInt8} : begins (x :: l) [c] = (x == c) := by simp [begins]
theorem begins_nil {c : UInt8} : begins [] [c] = false := rfl
theorem no_minus {d : List UInt8} (h : ∀ c, c ∈ d → isDig c = true) : begins d [45] = false := by
  cases d with
  | nil => rfl
  | cons x d =>
    rw [begins_cons, beq_eq_false_iff_ne]
    intro e
    have := h x (List.mem_cons_self ..)
    rw [e] at this
    exact absurd this (by decide)
theorem parseI_nn {d : List UInt8} (h : begins d [45] = false) : 0 ≤ (parseI d).1 := by
  rw [parseI, if_neg (by rw [h]; simp)]
  split
  · exact Int.le_refl _
  · split
    · exact Int.natCast_nonneg _
    · exact Int.le_refl _
end Go.Proofs.YtginpkchjeooeaaDoor

/- Chapter 41: the grammar of path expressions, in plain terms. -/
set_option maxRecDepth 100000
set_option maxHeartbeats 4000000
set_option linter.all false
namespace Go.Proofs.YtginpkchjeooeaaDoor
open Go.Vm

abbrev PR := Option (Pr × List UInt8)
/-- operands joined from the left -/
def lst (nx : List UInt8 → PR) (o : Int) (c : UInt8) : Nat → Pr → List UInt8 → PR
  | 0, _, _ => none
  | k + 1, x, s => if begins s [c] = true then
      match nx (s.drop 1) with
      | none => none
      | some (y, r) => lst nx o c k (.bin (op0 o) x y) r
    else some (x, s)
def lstP (nx : List UInt8 → PR) (o : Int) (c : UInt8) (s : List UInt8) : PR :=
  match nx s with
  | none => none
  | some (x, r) => lst nx o c (r.length + 1) x r
def strs : Nat → Pr → List UInt8 → Pr × List UInt8
  | 0, p, s => (p, s)
  | k + 1, p, s => if begins s [42] = true then strs k (.un (op0 6) p) (s.drop 1) else (p, s)
def pStr (nx : List UInt8 → PR) (s : List UInt8) : PR :=
  match nx s with
  | none => none
  | some (p, r) => some (strs (r.length + 1) p r)
def pNumb (s : List UInt8) : PR := if (parseI (digs s)).2 = true then some (.leaf ⟨3, (parseI (digs s)).1⟩, dropD s) else none
def pAtm : Nat → List UInt8 → PR
  | 0, _ => none
  | k + 1, s =>
    if begins s [40, 41] = true then some (.leaf (op0 1), s.drop 2)
    else if begins s [46] = true then some (.leaf (op0 2), s.drop 1)
    else if begins s [40] = true then
      match lstP (lstP (pStr (pAtm k)) 4 44) 5 124 (s.drop 1) with
      | none => none
      | some (p, r) => if begins r [41] = true then some (p, r.drop 1) else none
    else pNumb s
def pCat (k : Nat) : List UInt8 → PR := lstP (pStr (pAtm k)) 4 44
def pOr (k : Nat) : List UInt8 → PR := lstP (pCat k) 5 124
/-- a reader consumes text, at least a byte for each node -/
def Eats (f : List UInt8 → PR) : Prop := ∀ s p r, f s = some (p, r) → (flat p).length + r.length ≤ s.length ∧ okP 1000000000 p
theorem lst_eats {nx : List UInt8 → PR} (h : Eats nx) {o : Int} (ho : o = 4 ∨ o = 5) {c : UInt8} : ∀ k x s p r, okP 1000000000 x → lst nx o c k x s = some (p, r) → (flat p).length + r.length ≤ (flat x).length + s.length ∧ okP 1000000000 p
  | 0, x, s, p, r, _, e => by cases e
  | k + 1, x, s, p, r, hx, e => by
    rw [lst] at e
    split at e
    · rename_i hb
      have hl := begins_le hb
      simp only [List.length_cons, List.length_nil] at hl
      cases hn : nx (s.drop 1) with
      | none => rw [hn] at e; cases e
      | some q =>
        obtain ⟨y, t⟩ := q
        rw [hn] at e
        have h1 := h _ _ _ hn
        rw [List.length_drop] at h1
        have h2 := lst_eats h ho k (.bin (op0 o) x y) t p r ⟨ho, hx, h1.2⟩ e
        rw [flat, List.length_cons, List.length_append] at h2
        exact ⟨by omega, h2.2⟩
    · injection e with e
      injection e with e1 e2
      subst e1 e2
      exact ⟨Nat.le_refl _, hx⟩
theorem lstP_eats {nx : List UInt8 → PR} (h : Eats nx) {o : Int} (ho : o = 4 ∨ o = 5) {c : UInt8} : Eats (lstP nx o c) := by
  intro s p r e
  rw [lstP] at e
  cases hn : nx s with
  | none => rw [hn] at e; cases e
  | some q =>
    obtain ⟨y, t⟩ := q
    rw [hn] at e
    have h1 := h _ _ _ hn
    have h2 := lst_eats h ho _ _ _ _ _ h1.2 e
    exact ⟨by omega, h2.2⟩
theorem strs_eats : ∀ k p s, okP 1000000000 p → (flat (strs k p s).1).length + (strs k p s).2.length ≤ (flat p).length + s.length ∧ okP 1000000000 (strs k p s).1
  | 0, p, s, hp => ⟨Nat.le_refl _, hp⟩
  | k + 1, p, s, hp => by
    rw [strs]
    split
    · rename_i hb
      have hl := begins_le hb
      simp only [List.length_cons, List.length_nil] at hl
      have h := strs_eats k (.un (op0 6) p) (s.drop 1) ⟨rfl, hp⟩
      rw [flat, List.length_cons, List.length_drop] at h
      exact ⟨by omega, h.2⟩
    · exact ⟨Nat.le_refl _, hp⟩
theorem pStr_eats {nx : List UInt8 → PR} (h : Eats nx) : Eats (pStr nx) := by
  intro s p r e
  rw [pStr] at e
  cases hn : nx s with
  | none => rw [hn] at e; cases e
  | some q =>
    obtain ⟨y, t⟩ := q
    rw [hn] at e
    have h1 := h _ _ _ hn
    have h2 := strs_eats (t.length + 1) y t h1.2
    simp only [Option.some.injEq] at e
    rw [e] at h2
    simp only at h2
    exact ⟨by omega, h2.2⟩
theorem parseI_lt {d : List UInt8} (h : begins d [45] = false) (h2 : (parseI d).2 = true) : (parseI d).1 < 1000000000 ∧ 0 < d.length := by
  rw [parseI, if_neg (by rw [h]; simp)] at h2 ⊢
  split at h2
  · simp at h2
  rename_i hc
  rw [if_neg hc]
  cases hv : valL d 0 with
  | none => rw [hv] at h2; simp at h2
  | some v =>
    simp only
    have h3 := valL_lt hv
    have h9 : d.length ≤ 9 := by omega
    have := Nat.pow_le_pow_right (n := 10) (by decide) h9
    have hp : 0 < d.length := canonD_pos (by simpa using fun g => hc (.inr g))
    exact ⟨by omega, hp⟩
theorem chk1_num {n : Int} (h : 0 ≤ n ∧ n < 1000000000) : chk1 1000000000 ⟨3, n⟩ = 0 := by
  have ha : arity 3 = 0 := rfl
  rw [chk1]
  simp only [ha]
  rw [if_neg (by decide), if_neg]
  rintro ⟨_, h2⟩
  unfold badN at h2
  simp only at h2
  omega
theorem pNumb_eats : Eats pNumb := by
  intro s p r e
  rw [pNumb] at e
  split at e
  · rename_i h
    have hm := no_minus (digs_all s)
    obtain ⟨h1, h2⟩ := parseI_lt hm h
    have h3 := parseI_nn hm
    have h4 := dropD_len s
    injection e with e
    injection e with e1 e2
    subst e1 e2
    rw [flat, List.length_singleton]
    exact ⟨by omega, .inr (.inr rfl), chk1_num ⟨h3, h1⟩⟩
  · cases e
theorem pAtm_eats : ∀ k, Eats (pAtm k)
  | 0 => by intro s p r e; cases e
  | k + 1 => by
    have ih := pAtm_eats k
    intro s p r e
    rw [pAtm] at e
    split at e
    · rename_i hb
      have hl := begins_le hb
      simp only [List.length_cons, List.length_nil] at hl
      injection e with e
      injection e with e1 e2
      subst e1 e2
      rw [List.length_drop, flat, List.length_singleton]
      exact ⟨by omega, .inl rfl, rfl⟩
    split at e
    · rename_i hb
      have hl := begins_le hb
      simp only [List.length_cons, List.length_nil] at hl
      injection e with e
      injection e with e1 e2
      subst e1 e2
      rw [List.length_drop, flat, List.length_singleton]
      exact ⟨by omega, .inr (.inl rfl), rfl⟩
    split at e
    · rename_i hb
      have hl := begins_le hb
      simp only [List.length_cons, List.length_nil] at hl
      cases hn : lstP (lstP (pStr (pAtm k)) 4 44) 5 124 (s.drop 1) with
      | none => rw [hn] at e; cases e
      | some q =>
        obtain ⟨y, t⟩ := q
        rw [hn] at e
        have h1 := lstP_eats (lstP_eats (pStr_eats ih) (.inl rfl)) (.inr rfl) _ _ _ hn
        rw [List.length_drop] at h1
        simp only at e
        split at e
        · injection e with e
          injection e with e1 e2
          subst e1 e2
          rw [List.length_drop]
          exact ⟨by omega, h1.2⟩
        · cases e
    · exact pNumb_eats s p r e
theorem pCat_eats (k : Nat) : Eats (pCat k) := lstP_eats (pStr_eats (pAtm_eats k)) (.inl rfl)
theorem pOr_eats (k : Nat) : Eats (pOr k) := lstP_eats (pCat_eats k) (.inr rfl)
end Go.Proofs.YtginpkchjeooeaaDoor

/- Chapter 41: the program's parser. -/
set_option maxRecDepth 100000
set_option maxHeartbeats 4000000
set_option linter.all false
namespace Go.Proofs.YtginpkchjeooeaaDoor
open Go.Vm

theorem rn_clX {q : Nat → Nat} {p : Pr} : rns q (clX p) = clX p := rns_ok (bel_clX p)
theorem acc_no {s p : List UInt8} (h : begins s p = false) : GCall Tryd.prog 58 [.ptr 0 0 0, .str p] [.cells 0 [.str s]] (.bool false) [.cells 0 [.str s]] := by
  have := pc58 s p
  rw [h, cutP, if_neg (by rw [h]; simp)] at this
  exact this
theorem acc_yes {s p : List UInt8} (h : begins s p = true) : GCall Tryd.prog 58 [.ptr 0 0 0, .str p] [.cells 0 [.str s]] (.bool true) [.cells 0 [.str (s.drop p.length)]] := by
  have := pc58 s p
  rw [h, cutP, if_pos h] at this
  exact this
/-- what a parsing function of the program answers -/
def Ans (f : Nat) (xs : List V) (s : List UInt8) (R : PR) : Prop :=
  ∃ (p : Pr) (r : List UInt8), GCall Tryd.prog f (.ptr 0 0 0 :: xs) [.cells 0 [.str s]] (.tup [encX p, .bool R.isSome]) [.cells 0 [.str r]] ∧ r.length ≤ s.length ∧ ∀ p' t, R = some (p', t) → p = p' ∧ r = t
def lstF (nx : List UInt8 → PR) (fl : List UInt8 → Pr) (fr : List UInt8 → List UInt8) (o : Int) (c : UInt8) : Nat → Pr → Bool → List UInt8 → Pr × List UInt8 × Bool
  | 0, l, ok, r => (l, r, ok)
  | k + 1, l, ok, r => if ok = true ∧ begins r [c] = true then lstF nx fl fr o c k (.bin (op0 o) l (fl (r.drop 1))) ((nx (r.drop 1)).isSome) (fr (r.drop 1)) else (l, r, ok)
theorem lstF_law {nx : List UInt8 → PR} {fl : List UInt8 → Pr} {fr : List UInt8 → List UInt8} {o : Int} {c : UInt8} {n : Nat}
    (h : ∀ s, s.length < n → (fr s).length ≤ s.length ∧ ∀ p t, nx s = some (p, t) → fl s = p ∧ fr s = t) :
    ∀ (k : Nat) (l : Pr) (x : PR) (r : List UInt8), (∀ p t, x = some (p, t) → l = p ∧ r = t) → r.length < k → r.length ≤ n →
    (lstF nx fl fr o c k l x.isSome r).2.1.length ≤ r.length ∧
    (lstF nx fl fr o c k l x.isSome r).2.2 = (x.bind fun q => lst nx o c k q.1 q.2).isSome ∧
    ∀ p t, (x.bind fun q => lst nx o c k q.1 q.2) = some (p, t) → (lstF nx fl fr o c k l x.isSome r).1 = p ∧ (lstF nx fl fr o c k l x.isSome r).2.1 = t
  | 0, l, x, r, _, hk, _ => absurd hk (Nat.not_lt_zero _)
  | k + 1, l, x, r, hx, hk, hn => by
    cases x with
    | none =>
      rw [lstF, if_neg (by simp)]
      exact ⟨Nat.le_refl _, rfl, fun p t e => by cases e⟩
    | some q =>
      obtain ⟨p, t⟩ := q
      obtain ⟨rfl, rfl⟩ := hx p t rfl
      rw [lstF]
      show _ ∧ _ = (lst nx o c (k + 1) l r).isSome ∧ ∀ p' t', lst nx o c (k + 1) l r = some (p', t') → _
      rw [lst]
      by_cases hb : begins r [c] = true
      · have hl := begins_le hb
        simp only [List.length_cons, List.length_nil] at hl
        have hd : (r.drop 1).length = r.length - 1 := List.length_drop
        obtain ⟨h1, h2⟩ := h (r.drop 1) (by omega)
        rw [if_pos ⟨rfl, hb⟩, if_pos hb]
        cases hy : nx (r.drop 1) with
        | none =>
          have i := lstF_law (o := o) (c := c) h k (.bin (op0 o) l (fl (r.drop 1))) none (fr (r.drop 1)) (fun p t e => by cases e) (by omega) (by omega)
          exact ⟨by omega, i.2.1, fun p t e => by cases e⟩
        | some z =>
          obtain ⟨y, u⟩ := z
          obtain ⟨e1, e2⟩ := h2 y u hy
          have i := lstF_law (o := o) (c := c) h k (.bin (op0 o) l (fl (r.drop 1))) (some (.bin (op0 o) l y, u)) (fr (r.drop 1)) (fun p t e => by cases e; exact ⟨by rw [e1], e2⟩) (by omega) (by omega)
          refine ⟨Nat.le_trans i.1 (by omega), i.2.1, i.2.2⟩
      · rw [if_neg (fun g => hb g.2), if_neg hb]
        exact ⟨Nat.le_refl _, rfl, fun p t e => by cases e; exact ⟨rfl, rfl⟩⟩
theorem pg49 (F : Nat) (nx : List UInt8 → PR) (o : Int) (c : UInt8) (n : Nat) (hn : n ≤ 100001) (h : ∀ s, s.length < n → Ans F [] s (nx s)) (s : List UInt8) (hs : s.length < n) :
    Ans 49 [.int .i64 o, .str [c], .fn (.func F) [.ptr 0 0 0] []] s (lstP nx o c s) := by
  have hc : ∃ (fl : List UInt8 → Pr) (fr : List UInt8 → List UInt8), ∀ s, s.length < n → GCall Tryd.prog F [.ptr 0 0 0] [.cells 0 [.str s]] (.tup [encX (fl s), .bool (nx s).isSome]) [.cells 0 [.str (fr s)]] ∧
      (fr s).length ≤ s.length ∧ ∀ p t, nx s = some (p, t) → fl s = p ∧ fr s = t := by
    refine ⟨fun s => if h1 : s.length < n then (h s h1).choose else .leaf (op0 1), fun s => if h1 : s.length < n then (h s h1).choose_spec.choose else [], fun s h1 => ?_⟩
    simp only [dif_pos h1]
    exact (h s h1).choose_spec.choose_spec
  obtain ⟨fl, fr, hf⟩ := hc
  have hlaw := fun l x r => lstF_law (nx := nx) (fl := fl) (fr := fr) (o := o) (c := c) (n := n) (fun s hs => (hf s hs).2) ((fr s).length + 1) l x r
  have h0 := hf s hs
  have law := hlaw (fl s) (nx s) (fr s) h0.2.2 (Nat.lt_succ_self _) (by omega)
  have eP : (nx s).bind (fun q => lst nx o c ((fr s).length + 1) q.1 q.2) = lstP nx o c s := by
    rw [lstP]
    cases hx : nx s with
    | none => rfl
    | some q =>
      obtain ⟨p, t⟩ := q
      rw [(h0.2.2 p t hx).2]
      rfl
  rw [eP] at law
  generalize hR : lstF nx fl fr o c ((fr s).length + 1) (fl s) (nx s).isSome (fr s) = R at law
  obtain ⟨L, U, OK⟩ := R
  simp only at law
  refine ⟨L, U, ?_, by omega, law.2.2⟩
  rw [← law.2.1]
  have g0 := h0.1
  rw [encX] at g0
  refine GC.walk tok mixed cfg0 Tryd.func49 rfl Tryd.call49 ?_; simp (maxSteps := 2000000) -implicitDefEqProofs +contextual (disch := first | assumption | omega | decide +kernel) only [push_cast, ↓capI, br2_true, br2_false, frk_tt, frk_tf, frk_f, frkD_tt, frkD_tf, frkD_f, pk2_true, pk2_false, imp_true, seval, Nat.reduceLeDiff, Nat.reduceEqDiff, reduceCtorEq, ↓reduceIte, fmN, fm0, take_N, toN1, slN_nil, encN, slN, cfg0, get_flat_part lenN, get_flat_drop lenN, len_flat lenN, V.rn, rns, qn, setPs, rnOs, Ob.rn, List.set_cons_zero, List.size_toArray, encX, rn_clX, Tryd.ntmps49]
  refine callO.part0 [0] g0 (by decide) rfl rfl ⟨by rfl, by simp, trivial⟩ ?_
  simp (maxSteps := 2000000) -implicitDefEqProofs +contextual (disch := first | assumption | omega | decide +kernel) only [push_cast, ↓capI, br2_true, br2_false, frk_tt, frk_tf, frk_f, frkD_tt, frkD_tf, frkD_f, pk2_true, pk2_false, imp_true, seval, Nat.reduceLeDiff, Nat.reduceEqDiff, reduceCtorEq, ↓reduceIte, fmN, fm0, take_N, toN1, slN_nil, encN, slN, cfg0, get_flat_part lenN, get_flat_drop lenN, len_flat lenN, V.rn, rns, qn, setPs, rnOs, Ob.rn, List.set_cons_zero, List.size_toArray, encX, rn_clX]
  refine T.lp tok mixed cfg0 (fun ((l, ok, r) : Pr × Bool × List UInt8) => kp 4 (dd 6 (sv (encX l) (sv (.bool ok) (dd 26 (nl)))))) (fun H0 ((l, ok, r) : Pr × Bool × List UInt8) => [.cells 0 [.str r]]) (fun ((l, ok, r) : Pr × Bool × List UInt8) => r.length ≤ s.length ∧ ∃ m, r.length < m ∧ lstF nx fl fr o c m l ok r = (L, U, OK)) (fun ((l, ok, r) : Pr × Bool × List UInt8) => r.length) ((fl s, (nx s).isSome, fr s)) ?_ ?_ ?_
  · exact ⟨h0.2.1, _, Nat.lt_succ_self _, hR⟩
  · exact Gn.canon (J := []) (by first | rfl | (simp [List.append_nil]; done) | (simp [List.append_nil]; rfl)) (by simp [wk, slN, encX, putT, kp, dd, sv, nl]) (by simp [List.length_append]) (by simp [fmN, fm0, belN, bel_Ns, bel_slN, bel_clX, bel_encX, kp, dd, sv, nl]) (by simp [fmN, fm0, belN, bel_Ns, bel_slN, bel_clX, bel_encX])
  rintro ⟨l, ok, r⟩ ⟨hl, m, hm, he⟩
  cases m with
  | zero => omega
  | succ m =>
  rw [lstF] at he
  cases ok
  · rw [if_neg (by simp)] at he
    cases he
    simp (maxSteps := 2000000) -implicitDefEqProofs +contextual (disch := first | assumption | omega | decide +kernel) only [push_cast, ↓capI, br2_true, br2_false, frk_tt, frk_tf, frk_f, frkD_tt, frkD_tf, frkD_f, pk2_true, pk2_false, imp_true, seval, Nat.reduceLeDiff, Nat.reduceEqDiff, reduceCtorEq, ↓reduceIte, fmN, fm0, take_N, toN1, slN_nil, encN, slN, cfg0, get_flat_part lenN, get_flat_drop lenN, len_flat lenN, V.rn, rns, qn, setPs, rnOs, Ob.rn, List.set_cons_zero, List.size_toArray, encX, rn_clX]
    refine endG.ret ([]) (by first | rfl | simp [fmN, fm0, belN, bel_Ns, bel_slN, bel_clX, bel_encX, fzs_ok, getO, setO, fzs, fz, fzH, Nat.beq, fmN, fm0, take_N, toN1, slN_nil, encN, slN, cfg0, get_flat_part lenN, get_flat_drop lenN, len_flat lenN, V.rn, rns, qn, setPs, rnOs, Ob.rn, List.set_cons_zero, List.size_toArray, encX, rn_clX]) (by simp) (by simp [fmN, fm0, belN, bel_Ns, bel_slN, bel_clX, bel_encX, fzs_ok, imp, lenOK_iff, List.take_of_length_le, evRes, getT, getO, setO, fzs, fz, fzH, Nat.beq, retV, Res.then, ldT, ldR, mkV, getV, fmN, fm0, take_N, toN1, slN_nil, encN, slN, cfg0, get_flat_part lenN, get_flat_drop lenN, len_flat lenN, V.rn, rns, qn, setPs, rnOs, Ob.rn, List.set_cons_zero, List.size_toArray, encX, rn_clX, Tryd.f49]) (by first | rfl | simp [fmN, fm0, belN, bel_Ns, bel_slN, bel_clX, bel_encX]) (by first | rfl | simp [fmN, fm0, belN, bel_Ns, bel_slN, bel_clX, bel_encX])
  cases hb : begins r [c]
  · rw [if_neg (by rw [hb]; simp)] at he
    cases he
    simp (maxSteps := 2000000) -implicitDefEqProofs +contextual (disch := first | assumption | omega | decide +kernel) only [push_cast, ↓capI, br2_true, br2_false, frk_tt, frk_tf, frk_f, frkD_tt, frkD_tf, frkD_f, pk2_true, pk2_false, imp_true, seval, Nat.reduceLeDiff, Nat.reduceEqDiff, reduceCtorEq, ↓reduceIte, fmN, fm0, take_N, toN1, slN_nil, encN, slN, cfg0, get_flat_part lenN, get_flat_drop lenN, len_flat lenN, V.rn, rns, qn, setPs, rnOs, Ob.rn, List.set_cons_zero, List.size_toArray, encX, rn_clX]
    refine callO.part0 [0] (acc_no hb) (by decide) rfl rfl ⟨by rfl, by simp, trivial⟩ ?_
    simp (maxSteps := 2000000) -implicitDefEqProofs +contextual (disch := first | assumption | omega | decide +kernel) only [push_cast, ↓capI, br2_true, br2_false, frk_tt, frk_tf, frk_f, frkD_tt, frkD_tf, frkD_f, pk2_true, pk2_false, imp_true, seval, Nat.reduceLeDiff, Nat.reduceEqDiff, reduceCtorEq, ↓reduceIte, fmN, fm0, take_N, toN1, slN_nil, encN, slN, cfg0, get_flat_part lenN, get_flat_drop lenN, len_flat lenN, V.rn, rns, qn, setPs, rnOs, Ob.rn, List.set_cons_zero, List.size_toArray, encX, rn_clX]
    refine endG.ret ([]) (by first | rfl | simp [fmN, fm0, belN, bel_Ns, bel_slN, bel_clX, bel_encX, fzs_ok, getO, setO, fzs, fz, fzH, Nat.beq, fmN, fm0, take_N, toN1, slN_nil, encN, slN, cfg0, get_flat_part lenN, get_flat_drop lenN, len_flat lenN, V.rn, rns, qn, setPs, rnOs, Ob.rn, List.set_cons_zero, List.size_toArray, encX, rn_clX]) (by simp) (by simp [fmN, fm0, belN, bel_Ns, bel_slN, bel_clX, bel_encX, fzs_ok, imp, lenOK_iff, List.take_of_length_le, evRes, getT, getO, setO, fzs, fz, fzH, Nat.beq, retV, Res.then, ldT, ldR, mkV, getV, fmN, fm0, take_N, toN1, slN_nil, encN, slN, cfg0, get_flat_part lenN, get_flat_drop lenN, len_flat lenN, V.rn, rns, qn, setPs, rnOs, Ob.rn, List.set_cons_zero, List.size_toArray, encX, rn_clX, Tryd.f49]) (by first | rfl | simp [fmN, fm0, belN, bel_Ns, bel_slN, bel_clX, bel_encX]) (by first | rfl | simp [fmN, fm0, belN, bel_Ns, bel_slN, bel_clX, bel_encX])
  · have hbl := begins_le hb
    simp only [List.length_cons, List.length_nil] at hbl
    have hd : (r.drop 1).length = r.length - 1 := List.length_drop
    have hy := hf (r.drop 1) (by omega)
    rw [if_pos ⟨rfl, hb⟩] at he
    have gy := hy.1
    have gl := hy.2.1
    rw [encX] at gy
    simp (maxSteps := 2000000) -implicitDefEqProofs +contextual (disch := first | assumption | omega | decide +kernel) only [push_cast, ↓capI, br2_true, br2_false, frk_tt, frk_tf, frk_f, frkD_tt, frkD_tf, frkD_f, pk2_true, pk2_false, imp_true, seval, Nat.reduceLeDiff, Nat.reduceEqDiff, reduceCtorEq, ↓reduceIte, fmN, fm0, take_N, toN1, slN_nil, encN, slN, cfg0, get_flat_part lenN, get_flat_drop lenN, len_flat lenN, V.rn, rns, qn, setPs, rnOs, Ob.rn, List.set_cons_zero, List.size_toArray, encX, rn_clX]
    refine callO.part0 [0] (acc_yes hb) (by decide) rfl rfl ⟨by rfl, by simp, trivial⟩ ?_
    simp (maxSteps := 2000000) -implicitDefEqProofs +contextual (disch := first | assumption | omega | decide +kernel) only [push_cast, ↓capI, br2_true, br2_false, frk_tt, frk_tf, frk_f, frkD_tt, frkD_tf, frkD_f, pk2_true, pk2_false, imp_true, seval, Nat.reduceLeDiff, Nat.reduceEqDiff, reduceCtorEq, ↓reduceIte, fmN, fm0, take_N, toN1, slN_nil, encN, slN, cfg0, get_flat_part lenN, get_flat_drop lenN, len_flat lenN, V.rn, rns, qn, setPs, rnOs, Ob.rn, List.set_cons_zero, List.size_toArray, encX, rn_clX, List.length_cons, List.length_nil]
    refine callO.part0 [0] gy (by decide) rfl rfl ⟨by rfl, by simp, trivial⟩ ?_
    simp (maxSteps := 2000000) -implicitDefEqProofs +contextual (disch := first | assumption | omega | decide +kernel) only [push_cast, ↓capI, br2_true, br2_false, frk_tt, frk_tf, frk_f, frkD_tt, frkD_tf, frkD_f, pk2_true, pk2_false, imp_true, seval, Nat.reduceLeDiff, Nat.reduceEqDiff, reduceCtorEq, ↓reduceIte, fmN, fm0, take_N, toN1, slN_nil, encN, slN, cfg0, get_flat_part lenN, get_flat_drop lenN, len_flat lenN, V.rn, rns, qn, setPs, rnOs, Ob.rn, List.set_cons_zero, List.size_toArray, encX, rn_clX]
    refine ⟨(.bin (op0 o) l (fl (r.drop 1)), (nx (r.drop 1)).isSome, fr (r.drop 1)), ⟨by (try simp only); omega, m, by (try simp only); omega, he⟩, by (try simp only); omega, ?_⟩; exact Gn.canon (by first | rfl | (simp [List.append_nil, tgX, clX, op0]; rfl)) (by simp [wk, slN, encX, tgX, clX, op0]) (by simp [List.length_append]) (by simp [fmN, fm0, belN, bel_Ns, bel_slN, bel_clX, bel_encX]) (by simp [fmN, fm0, belN, bel_Ns, bel_slN, bel_clX, bel_encX])
end Go.Proofs.YtginpkchjeooeaaDoor

/- Chapter 41: the program's parser: concatenations, repetitions, atoms. -/
set_option maxRecDepth 100000
set_option maxHeartbeats 4000000
set_option linter.all false
namespace Go.Proofs.YtginpkchjeooeaaDoor
open Go.Vm

theorem pgCat {nx : List UInt8 → PR} {n : Nat} (hn : n ≤ 100001) (h : ∀ s, s.length < n → Ans 59 [] s (nx s)) (s : List UInt8) (hs : s.length < n) : Ans 50 [] s (lstP nx 4 44 s) := by
  obtain ⟨p, r, g, hl, hr⟩ := pg49 59 nx 4 44 n hn h s hs
  refine ⟨p, r, ?_, hl, hr⟩
  refine GC.walk tok mixed cfg0 Tryd.func50 rfl Tryd.call50 ?_; simp (maxSteps := 2000000) -implicitDefEqProofs +contextual (disch := first | assumption | omega | decide +kernel) only [push_cast, ↓capI, br2_true, br2_false, frk_tt, frk_tf, frk_f, frkD_tt, frkD_tf, frkD_f, pk2_true, pk2_false, imp_true, seval, Nat.reduceLeDiff, Nat.reduceEqDiff, reduceCtorEq, ↓reduceIte, fmN, fm0, take_N, toN1, slN_nil, encN, slN, cfg0, get_flat_part lenN, get_flat_drop lenN, len_flat lenN, V.rn, rns, qn, setPs, rnOs, Ob.rn, List.set_cons_zero, List.size_toArray, encX, rn_clX, Tryd.ntmps50]
  refine callO.part0 [0] g (by decide) rfl rfl ⟨by rfl, by simp, trivial⟩ ?_
  simp (maxSteps := 2000000) -implicitDefEqProofs +contextual (disch := first | assumption | omega | decide +kernel) only [push_cast, ↓capI, br2_true, br2_false, frk_tt, frk_tf, frk_f, frkD_tt, frkD_tf, frkD_f, pk2_true, pk2_false, imp_true, seval, Nat.reduceLeDiff, Nat.reduceEqDiff, reduceCtorEq, ↓reduceIte, fmN, fm0, take_N, toN1, slN_nil, encN, slN, cfg0, get_flat_part lenN, get_flat_drop lenN, len_flat lenN, V.rn, rns, qn, setPs, rnOs, Ob.rn, List.set_cons_zero, List.size_toArray, encX, rn_clX]
  refine endG.ret ([]) (by first | rfl | simp [fmN, fm0, belN, bel_Ns, bel_slN, bel_clX, bel_encX, fzs_ok, getO, setO, fzs, fz, fzH, Nat.beq, fmN, fm0, take_N, toN1, slN_nil, encN, slN, cfg0, get_flat_part lenN, get_flat_drop lenN, len_flat lenN, V.rn, rns, qn, setPs, rnOs, Ob.rn, List.set_cons_zero, List.size_toArray, encX, rn_clX, encX]) (by simp) (by simp [fmN, fm0, belN, bel_Ns, bel_slN, bel_clX, bel_encX, fzs_ok, imp, lenOK_iff, List.take_of_length_le, evRes, getT, getO, setO, fzs, fz, fzH, Nat.beq, retV, Res.then, ldT, ldR, mkV, getV, fmN, fm0, take_N, toN1, slN_nil, encN, slN, cfg0, get_flat_part lenN, get_flat_drop lenN, len_flat lenN, V.rn, rns, qn, setPs, rnOs, Ob.rn, List.set_cons_zero, List.size_toArray, encX, rn_clX, Tryd.f50, encX]) (by first | rfl | simp [fmN, fm0, belN, bel_Ns, bel_slN, bel_clX, bel_encX, encX]) (by first | rfl | simp [fmN, fm0, belN, bel_Ns, bel_slN, bel_clX, bel_encX, encX])
theorem pgAlt {nx : List UInt8 → PR} {n : Nat} (hn : n ≤ 100001) (h : ∀ s, s.length < n → Ans 50 [] s (nx s)) (s : List UInt8) (hs : s.length < n) : Ans 36 [] s (lstP nx 5 124 s) := by
  obtain ⟨p, r, g, hl, hr⟩ := pg49 50 nx 5 124 n hn h s hs
  refine ⟨p, r, ?_, hl, hr⟩
  refine GC.walk tok mixed cfg0 Tryd.func36 rfl Tryd.call36 ?_; simp (maxSteps := 2000000) -implicitDefEqProofs +contextual (disch := first | assumption | omega | decide +kernel) only [push_cast, ↓capI, br2_true, br2_false, frk_tt, frk_tf, frk_f, frkD_tt, frkD_tf, frkD_f, pk2_true, pk2_false, imp_true, seval, Nat.reduceLeDiff, Nat.reduceEqDiff, reduceCtorEq, ↓reduceIte, fmN, fm0, take_N, toN1, slN_nil, encN, slN, cfg0, get_flat_part lenN, get_flat_drop lenN, len_flat lenN, V.rn, rns, qn, setPs, rnOs, Ob.rn, List.set_cons_zero, List.size_toArray, encX, rn_clX, Tryd.ntmps36]
  refine callO.part0 [0] g (by decide) rfl rfl ⟨by rfl, by simp, trivial⟩ ?_
  simp (maxSteps := 2000000) -implicitDefEqProofs +contextual (disch := first | assumption | omega | decide +kernel) only [push_cast, ↓capI, br2_true, br2_false, frk_tt, frk_tf, frk_f, frkD_tt, frkD_tf, frkD_f, pk2_true, pk2_false, imp_true, seval, Nat.reduceLeDiff, Nat.reduceEqDiff, reduceCtorEq, ↓reduceIte, fmN, fm0, take_N, toN1, slN_nil, encN, slN, cfg0, get_flat_part lenN, get_flat_drop lenN, len_flat lenN, V.rn, rns, qn, setPs, rnOs, Ob.rn, List.set_cons_zero, List.size_toArray, encX, rn_clX]
  refine endG.ret ([]) (by first | rfl | simp [fmN, fm0, belN, bel_Ns, bel_slN, bel_clX, bel_encX, fzs_ok, getO, setO, fzs, fz, fzH, Nat.beq, fmN, fm0, take_N, toN1, slN_nil, encN, slN, cfg0, get_flat_part lenN, get_flat_drop lenN, len_flat lenN, V.rn, rns, qn, setPs, rnOs, Ob.rn, List.set_cons_zero, List.size_toArray, encX, rn_clX, encX]) (by simp) (by simp [fmN, fm0, belN, bel_Ns, bel_slN, bel_clX, bel_encX, fzs_ok, imp, lenOK_iff, List.take_of_length_le, evRes, getT, getO, setO, fzs, fz, fzH, Nat.beq, retV, Res.then, ldT, ldR, mkV, getV, fmN, fm0, take_N, toN1, slN_nil, encN, slN, cfg0, get_flat_part lenN, get_flat_drop lenN, len_flat lenN, V.rn, rns, qn, setPs, rnOs, Ob.rn, List.set_cons_zero, List.size_toArray, encX, rn_clX, Tryd.f36, encX]) (by first | rfl | simp [fmN, fm0, belN, bel_Ns, bel_slN, bel_clX, bel_encX, encX]) (by first | rfl | simp [fmN, fm0, belN, bel_Ns, bel_slN, bel_clX, bel_encX, encX])
theorem strs_len : ∀ k p s, (strs k p s).2.length ≤ s.length
  | 0, _, _ => Nat.le_refl _
  | k + 1, p, s => by
    rw [strs]
    split
    · have := strs_len k (.un (op0 6) p) (s.drop 1)
      rw [List.length_drop] at this
      omega
    · exact Nat.le_refl _
theorem pgStr {nx : List UInt8 → PR} {n : Nat} (h : ∀ s, s.length < n → Ans 63 [] s (nx s)) (s : List UInt8) (hs : s.length < n) : Ans 59 [] s (pStr nx s) := by
  obtain ⟨p0, r0, g, hl0, hr0⟩ := h s hs
  rw [encX] at g
  cases hx : nx s with
  | none =>
    rw [hx] at g
    have e : pStr nx s = none := by rw [pStr, hx]
    rw [e]
    refine ⟨p0, r0, ?_, hl0, fun p t e => by cases e⟩
    refine GC.walk tok mixed cfg0 Tryd.func59 rfl Tryd.call59 ?_; simp (maxSteps := 2000000) -implicitDefEqProofs +contextual (disch := first | assumption | omega | decide +kernel) only [push_cast, ↓capI, br2_true, br2_false, frk_tt, frk_tf, frk_f, frkD_tt, frkD_tf, frkD_f, pk2_true, pk2_false, imp_true, seval, Nat.reduceLeDiff, Nat.reduceEqDiff, reduceCtorEq, ↓reduceIte, fmN, fm0, take_N, toN1, slN_nil, encN, slN, cfg0, get_flat_part lenN, get_flat_drop lenN, len_flat lenN, V.rn, rns, qn, setPs, rnOs, Ob.rn, List.set_cons_zero, List.size_toArray, encX, rn_clX, Tryd.ntmps59]
    refine callO.part0 [0] g (by decide) rfl rfl ⟨by rfl, by simp, trivial⟩ ?_
    simp (maxSteps := 2000000) -implicitDefEqProofs +contextual (disch := first | assumption | omega | decide +kernel) only [push_cast, ↓capI, br2_true, br2_false, frk_tt, frk_tf, frk_f, frkD_tt, frkD_tf, frkD_f, pk2_true, pk2_false, imp_true, seval, Nat.reduceLeDiff, Nat.reduceEqDiff, reduceCtorEq, ↓reduceIte, fmN, fm0, take_N, toN1, slN_nil, encN, slN, cfg0, get_flat_part lenN, get_flat_drop lenN, len_flat lenN, V.rn, rns, qn, setPs, rnOs, Ob.rn, List.set_cons_zero, List.size_toArray, encX, rn_clX]
    refine T.lp tok mixed cfg0 (fun ((p, r) : Pr × List UInt8) => kp 1 (dd 3 (sv (encX p) (kp 1 (dd 15 (nl)))))) (fun H0 ((p, r) : Pr × List UInt8) => [.cells 0 [.str r]]) (fun ((p, r) : Pr × List UInt8) => p = p0 ∧ r = r0) (fun ((p, r) : Pr × List UInt8) => 0) ((p0, r0)) ?_ ?_ ?_
    · exact ⟨rfl, rfl⟩
    · exact Gn.canon (J := []) (by first | rfl | (simp [List.append_nil]; done) | (simp [List.append_nil]; rfl)) (by simp [wk, slN, encX, putT, kp, dd, sv, nl]) (by simp [List.length_append]) (by simp [fmN, fm0, belN, bel_Ns, bel_slN, bel_clX, bel_encX, kp, dd, sv, nl]) (by simp [fmN, fm0, belN, bel_Ns, bel_slN, bel_clX, bel_encX])
    rintro ⟨p, r⟩ ⟨rfl, rfl⟩
    simp (maxSteps := 2000000) -implicitDefEqProofs +contextual (disch := first | assumption | omega | decide +kernel) only [push_cast, ↓capI, br2_true, br2_false, frk_tt, frk_tf, frk_f, frkD_tt, frkD_tf, frkD_f, pk2_true, pk2_false, imp_true, seval, Nat.reduceLeDiff, Nat.reduceEqDiff, reduceCtorEq, ↓reduceIte, fmN, fm0, take_N, toN1, slN_nil, encN, slN, cfg0, get_flat_part lenN, get_flat_drop lenN, len_flat lenN, V.rn, rns, qn, setPs, rnOs, Ob.rn, List.set_cons_zero, List.size_toArray, encX, rn_clX]
    refine endG.ret ([]) (by first | rfl | simp [fmN, fm0, belN, bel_Ns, bel_slN, bel_clX, bel_encX, fzs_ok, getO, setO, fzs, fz, fzH, Nat.beq, fmN, fm0, take_N, toN1, slN_nil, encN, slN, cfg0, get_flat_part lenN, get_flat_drop lenN, len_flat lenN, V.rn, rns, qn, setPs, rnOs, Ob.rn, List.set_cons_zero, List.size_toArray, encX, rn_clX, encX]) (by simp) (by simp [fmN, fm0, belN, bel_Ns, bel_slN, bel_clX, bel_encX, fzs_ok, imp, lenOK_iff, List.take_of_length_le, evRes, getT, getO, setO, fzs, fz, fzH, Nat.beq, retV, Res.then, ldT, ldR, mkV, getV, fmN, fm0, take_N, toN1, slN_nil, encN, slN, cfg0, get_flat_part lenN, get_flat_drop lenN, len_flat lenN, V.rn, rns, qn, setPs, rnOs, Ob.rn, List.set_cons_zero, List.size_toArray, encX, rn_clX, Tryd.f59, encX]) (by first | rfl | simp [fmN, fm0, belN, bel_Ns, bel_slN, bel_clX, bel_encX, encX]) (by first | rfl | simp [fmN, fm0, belN, bel_Ns, bel_slN, bel_clX, bel_encX, encX])
  | some q =>
    obtain ⟨p1, r1⟩ := q
    obtain ⟨rfl, rfl⟩ := hr0 _ _ hx
    rw [hx] at g
    have e : pStr nx s = some (strs (r0.length + 1) p0 r0) := by rw [pStr, hx]
    rw [e]
    have hsl := strs_len (r0.length + 1) p0 r0
    generalize hR : strs (r0.length + 1) p0 r0 = R at hsl
    obtain ⟨P, U⟩ := R
    simp only at hsl
    refine ⟨P, U, ?_, by omega, fun p t e => by cases e; exact ⟨rfl, rfl⟩⟩
    refine GC.walk tok mixed cfg0 Tryd.func59 rfl Tryd.call59 ?_; simp (maxSteps := 2000000) -implicitDefEqProofs +contextual (disch := first | assumption | omega | decide +kernel) only [push_cast, ↓capI, br2_true, br2_false, frk_tt, frk_tf, frk_f, frkD_tt, frkD_tf, frkD_f, pk2_true, pk2_false, imp_true, seval, Nat.reduceLeDiff, Nat.reduceEqDiff, reduceCtorEq, ↓reduceIte, fmN, fm0, take_N, toN1, slN_nil, encN, slN, cfg0, get_flat_part lenN, get_flat_drop lenN, len_flat lenN, V.rn, rns, qn, setPs, rnOs, Ob.rn, List.set_cons_zero, List.size_toArray, encX, rn_clX, Tryd.ntmps59]
    refine callO.part0 [0] g (by decide) rfl rfl ⟨by rfl, by simp, trivial⟩ ?_
    simp (maxSteps := 2000000) -implicitDefEqProofs +contextual (disch := first | assumption | omega | decide +kernel) only [push_cast, ↓capI, br2_true, br2_false, frk_tt, frk_tf, frk_f, frkD_tt, frkD_tf, frkD_f, pk2_true, pk2_false, imp_true, seval, Nat.reduceLeDiff, Nat.reduceEqDiff, reduceCtorEq, ↓reduceIte, fmN, fm0, take_N, toN1, slN_nil, encN, slN, cfg0, get_flat_part lenN, get_flat_drop lenN, len_flat lenN, V.rn, rns, qn, setPs, rnOs, Ob.rn, List.set_cons_zero, List.size_toArray, encX, rn_clX]
    refine T.lp tok mixed cfg0 (fun ((p, r) : Pr × List UInt8) => kp 1 (dd 3 (sv (encX p) (kp 1 (dd 15 (nl)))))) (fun H0 ((p, r) : Pr × List UInt8) => [.cells 0 [.str r]]) (fun ((p, r) : Pr × List UInt8) => ∃ m, r.length < m ∧ strs m p r = (P, U)) (fun ((p, r) : Pr × List UInt8) => r.length) ((p0, r0)) ?_ ?_ ?_
    · exact ⟨_, Nat.lt_succ_self _, hR⟩
    · exact Gn.canon (J := []) (by first | rfl | (simp [List.append_nil]; done) | (simp [List.append_nil]; rfl)) (by simp [wk, slN, encX, putT, kp, dd, sv, nl]) (by simp [List.length_append]) (by simp [fmN, fm0, belN, bel_Ns, bel_slN, bel_clX, bel_encX, kp, dd, sv, nl]) (by simp [fmN, fm0, belN, bel_Ns, bel_slN, bel_clX, bel_encX])
    rintro ⟨p, r⟩ ⟨m, hm, he⟩
    cases m with
    | zero => omega
    | succ m =>
    rw [strs] at he
    cases hb : begins r [42]
    · rw [if_neg (by rw [hb]; simp)] at he
      cases he
      simp (maxSteps := 2000000) -implicitDefEqProofs +contextual (disch := first | assumption | omega | decide +kernel) only [push_cast, ↓capI, br2_true, br2_false, frk_tt, frk_tf, frk_f, frkD_tt, frkD_tf, frkD_f, pk2_true, pk2_false, imp_true, seval, Nat.reduceLeDiff, Nat.reduceEqDiff, reduceCtorEq, ↓reduceIte, fmN, fm0, take_N, toN1, slN_nil, encN, slN, cfg0, get_flat_part lenN, get_flat_drop lenN, len_flat lenN, V.rn, rns, qn, setPs, rnOs, Ob.rn, List.set_cons_zero, List.size_toArray, encX, rn_clX]
      refine callO.part0 [0] (acc_no hb) (by decide) rfl rfl ⟨by rfl, by simp, trivial⟩ ?_
      simp (maxSteps := 2000000) -implicitDefEqProofs +contextual (disch := first | assumption | omega | decide +kernel) only [push_cast, ↓capI, br2_true, br2_false, frk_tt, frk_tf, frk_f, frkD_tt, frkD_tf, frkD_f, pk2_true, pk2_false, imp_true, seval, Nat.reduceLeDiff, Nat.reduceEqDiff, reduceCtorEq, ↓reduceIte, fmN, fm0, take_N, toN1, slN_nil, encN, slN, cfg0, get_flat_part lenN, get_flat_drop lenN, len_flat lenN, V.rn, rns, qn, setPs, rnOs, Ob.rn, List.set_cons_zero, List.size_toArray, encX, rn_clX]
      refine endG.ret ([]) (by first | rfl | simp [fmN, fm0, belN, bel_Ns, bel_slN, bel_clX, bel_encX, fzs_ok, getO, setO, fzs, fz, fzH, Nat.beq, fmN, fm0, take_N, toN1, slN_nil, encN, slN, cfg0, get_flat_part lenN, get_flat_drop lenN, len_flat lenN, V.rn, rns, qn, setPs, rnOs, Ob.rn, List.set_cons_zero, List.size_toArray, encX, rn_clX, encX]) (by simp) (by simp [fmN, fm0, belN, bel_Ns, bel_slN, bel_clX, bel_encX, fzs_ok, imp, lenOK_iff, List.take_of_length_le, evRes, getT, getO, setO, fzs, fz, fzH, Nat.beq, retV, Res.then, ldT, ldR, mkV, getV, fmN, fm0, take_N, toN1, slN_nil, encN, slN, cfg0, get_flat_part lenN, get_flat_drop lenN, len_flat lenN, V.rn, rns, qn, setPs, rnOs, Ob.rn, List.set_cons_zero, List.size_toArray, encX, rn_clX, Tryd.f59, encX]) (by first | rfl | simp [fmN, fm0, belN, bel_Ns, bel_slN, bel_clX, bel_encX, encX]) (by first | rfl | simp [fmN, fm0, belN, bel_Ns, bel_slN, bel_clX, bel_encX, encX])
    · have hbl := begins_le hb
      simp only [List.length_cons, List.length_nil] at hbl
      have hd : (r.drop 1).length = r.length - 1 := List.length_drop
      rw [if_pos hb] at he
      simp (maxSteps := 2000000) -implicitDefEqProofs +contextual (disch := first | assumption | omega | decide +kernel) only [push_cast, ↓capI, br2_true, br2_false, frk_tt, frk_tf, frk_f, frkD_tt, frkD_tf, frkD_f, pk2_true, pk2_false, imp_true, seval, Nat.reduceLeDiff, Nat.reduceEqDiff, reduceCtorEq, ↓reduceIte, fmN, fm0, take_N, toN1, slN_nil, encN, slN, cfg0, get_flat_part lenN, get_flat_drop lenN, len_flat lenN, V.rn, rns, qn, setPs, rnOs, Ob.rn, List.set_cons_zero, List.size_toArray, encX, rn_clX]
      refine callO.part0 [0] (acc_yes hb) (by decide) rfl rfl ⟨by rfl, by simp, trivial⟩ ?_
      simp (maxSteps := 2000000) -implicitDefEqProofs +contextual (disch := first | assumption | omega | decide +kernel) only [push_cast, ↓capI, br2_true, br2_false, frk_tt, frk_tf, frk_f, frkD_tt, frkD_tf, frkD_f, pk2_true, pk2_false, imp_true, seval, Nat.reduceLeDiff, Nat.reduceEqDiff, reduceCtorEq, ↓reduceIte, fmN, fm0, take_N, toN1, slN_nil, encN, slN, cfg0, get_flat_part lenN, get_flat_drop lenN, len_flat lenN, V.rn, rns, qn, setPs, rnOs, Ob.rn, List.set_cons_zero, List.size_toArray, encX, rn_clX, List.length_cons, List.length_nil]
      refine ⟨(.un (op0 6) p, r.drop 1), ⟨m, by (try simp only); omega, he⟩, by (try simp only); omega, ?_⟩; exact Gn.canon (by first | rfl | (simp [List.append_nil, tgX, clX, op0]; rfl)) (by simp [wk, slN, encX, tgX, clX, op0]) (by simp [List.length_append]) (by simp [fmN, fm0, belN, bel_Ns, bel_slN, bel_clX, bel_encX]) (by simp [fmN, fm0, belN, bel_Ns, bel_slN, bel_clX, bel_encX])
theorem pgNum (s : List UInt8) (hs : s.length ≤ 100000) (h1 : begins s [40, 41] = false) (h2 : begins s [46] = false) (h3 : begins s [40] = false) : Ans 63 [] s (pNumb s) := by
  have hl := dropD_len s
  have ht := (take_digs s).1
  have hd := (take_digs s).2
  have hk : (s.length : Int) - (dropD s).length = ((s.length - (dropD s).length : Nat) : Int) := by omega
  have hk2 : s.length - (dropD s).length ≤ s.length := Nat.sub_le _ _
  generalize s.length - (dropD s).length = k at ht hd hk hk2
  have hpi := pc68 (digs s) (by omega)
  have htl : min s.length (s.length - k) = s.length - k := by omega
  have hdt : (dropD s).take (s.length - k) = dropD s := List.take_of_length_le (by omega)
  have h67 := pc67 s
  unfold digs0 at h67
  rw [encIB] at hpi
  rw [pNumb]
  have eS : (if (parseI (digs s)).2 = true then some (Pr.leaf ⟨3, (parseI (digs s)).1⟩, dropD s) else none).isSome = (parseI (digs s)).2 := by
    cases (parseI (digs s)).2 <;> rfl
  refine ⟨.leaf ⟨3, (parseI (digs s)).1⟩, dropD s, ?_, by omega, fun p t e => ?_⟩
  · rw [eS]
    generalize parseI (digs s) = pi at hpi
    obtain ⟨n, ok⟩ := pi
    simp only at hpi
    refine GC.walk tok mixed cfg0 Tryd.func63 rfl Tryd.call63 ?_; simp (maxSteps := 2000000) -implicitDefEqProofs +contextual (disch := first | assumption | omega | decide +kernel) only [push_cast, ↓capI, br2_true, br2_false, frk_tt, frk_tf, frk_f, frkD_tt, frkD_tf, frkD_f, pk2_true, pk2_false, imp_true, seval, Nat.reduceLeDiff, Nat.reduceEqDiff, reduceCtorEq, ↓reduceIte, fmN, fm0, take_N, toN1, slN_nil, encN, slN, cfg0, get_flat_part lenN, get_flat_drop lenN, len_flat lenN, V.rn, rns, qn, setPs, rnOs, Ob.rn, List.set_cons_zero, List.size_toArray, encX, rn_clX, Tryd.ntmps63]
    refine callO.part0 [0] (acc_no h1) (by decide) rfl rfl ⟨by rfl, by simp, trivial⟩ ?_
    simp (maxSteps := 2000000) -implicitDefEqProofs +contextual (disch := first | assumption | omega | decide +kernel) only [push_cast, ↓capI, br2_true, br2_false, frk_tt, frk_tf, frk_f, frkD_tt, frkD_tf, frkD_f, pk2_true, pk2_false, imp_true, seval, Nat.reduceLeDiff, Nat.reduceEqDiff, reduceCtorEq, ↓reduceIte, fmN, fm0, take_N, toN1, slN_nil, encN, slN, cfg0, get_flat_part lenN, get_flat_drop lenN, len_flat lenN, V.rn, rns, qn, setPs, rnOs, Ob.rn, List.set_cons_zero, List.size_toArray, encX, rn_clX]
    refine callO.part0 [0] (acc_no h2) (by decide) rfl rfl ⟨by rfl, by simp, trivial⟩ ?_
    simp (maxSteps := 2000000) -implicitDefEqProofs +contextual (disch := first | assumption | omega | decide +kernel) only [push_cast, ↓capI, br2_true, br2_false, frk_tt, frk_tf, frk_f, frkD_tt, frkD_tf, frkD_f, pk2_true, pk2_false, imp_true, seval, Nat.reduceLeDiff, Nat.reduceEqDiff, reduceCtorEq, ↓reduceIte, fmN, fm0, take_N, toN1, slN_nil, encN, slN, cfg0, get_flat_part lenN, get_flat_drop lenN, len_flat lenN, V.rn, rns, qn, setPs, rnOs, Ob.rn, List.set_cons_zero, List.size_toArray, encX, rn_clX]
    refine callO.part0 [0] (acc_no h3) (by decide) rfl rfl ⟨by rfl, by simp, trivial⟩ ?_
    simp (maxSteps := 2000000) -implicitDefEqProofs +contextual (disch := first | assumption | omega | decide +kernel) only [push_cast, ↓capI, br2_true, br2_false, frk_tt, frk_tf, frk_f, frkD_tt, frkD_tf, frkD_f, pk2_true, pk2_false, imp_true, seval, Nat.reduceLeDiff, Nat.reduceEqDiff, reduceCtorEq, ↓reduceIte, fmN, fm0, take_N, toN1, slN_nil, encN, slN, cfg0, get_flat_part lenN, get_flat_drop lenN, len_flat lenN, V.rn, rns, qn, setPs, rnOs, Ob.rn, List.set_cons_zero, List.size_toArray, encX, rn_clX]
    refine callG.pc1 h67 ?_
    simp (maxSteps := 2000000) -implicitDefEqProofs +contextual (disch := first | assumption | omega | decide +kernel) only [push_cast, ↓capI, br2_true, br2_false, frk_tt, frk_tf, frk_f, frkD_tt, frkD_tf, frkD_f, pk2_true, pk2_false, imp_true, seval, Nat.reduceLeDiff, Nat.reduceEqDiff, reduceCtorEq, ↓reduceIte, fmN, fm0, take_N, toN1, slN_nil, encN, slN, cfg0, get_flat_part lenN, get_flat_drop lenN, len_flat lenN, V.rn, rns, qn, setPs, rnOs, Ob.rn, List.set_cons_zero, List.size_toArray, encX, rn_clX, hk, ht, hd, Nat.sub_zero]
    refine callO.pc hpi ?_
    simp (maxSteps := 2000000) -implicitDefEqProofs +contextual (disch := first | assumption | omega | decide +kernel) only [push_cast, ↓capI, br2_true, br2_false, frk_tt, frk_tf, frk_f, frkD_tt, frkD_tf, frkD_f, pk2_true, pk2_false, imp_true, seval, Nat.reduceLeDiff, Nat.reduceEqDiff, reduceCtorEq, ↓reduceIte, fmN, fm0, take_N, toN1, slN_nil, encN, slN, cfg0, get_flat_part lenN, get_flat_drop lenN, len_flat lenN, V.rn, rns, qn, setPs, rnOs, Ob.rn, List.set_cons_zero, List.size_toArray, encX, rn_clX, ht, hd, hdt]
    refine endG.ret ([]) (by first | rfl | simp [fmN, fm0, belN, bel_Ns, bel_slN, bel_clX, bel_encX, fzs_ok, getO, setO, fzs, fz, fzH, Nat.beq, fmN, fm0, take_N, toN1, slN_nil, encN, slN, cfg0, get_flat_part lenN, get_flat_drop lenN, len_flat lenN, V.rn, rns, qn, setPs, rnOs, Ob.rn, List.set_cons_zero, List.size_toArray, encX, rn_clX, encX, tgX, clX, nN]) (by simp) (by simp [fmN, fm0, belN, bel_Ns, bel_slN, bel_clX, bel_encX, fzs_ok, imp, lenOK_iff, List.take_of_length_le, evRes, getT, getO, setO, fzs, fz, fzH, Nat.beq, retV, Res.then, ldT, ldR, mkV, getV, fmN, fm0, take_N, toN1, slN_nil, encN, slN, cfg0, get_flat_part lenN, get_flat_drop lenN, len_flat lenN, V.rn, rns, qn, setPs, rnOs, Ob.rn, List.set_cons_zero, List.size_toArray, encX, rn_clX, Tryd.f63, encX, tgX, clX, nN]) (by first | rfl | simp [fmN, fm0, belN, bel_Ns, bel_slN, bel_clX, bel_encX, encX, tgX, clX, nN]) (by first | rfl | simp [fmN, fm0, belN, bel_Ns, bel_slN, bel_clX, bel_encX, encX, tgX, clX, nN])
  · split at e
    · cases e; exact ⟨rfl, rfl⟩
    · cases e
theorem pg63 : ∀ k, k ≤ 100001 → ∀ s : List UInt8, s.length < k → Ans 63 [] s (pAtm k s)
  | 0, _, s, h => absurd h (Nat.not_lt_zero _)
  | k + 1, hk, s, hs => by
    have ih := pg63 k (by omega)
    rw [pAtm]
    by_cases h1 : begins s [40, 41] = true
    · have hl := begins_le h1
      simp only [List.length_cons, List.length_nil] at hl
      rw [if_pos h1]
      refine ⟨.leaf (op0 1), s.drop 2, ?_, by rw [List.length_drop]; omega, fun p t e => by cases e; exact ⟨rfl, rfl⟩⟩
      refine GC.walk tok mixed cfg0 Tryd.func63 rfl Tryd.call63 ?_; simp (maxSteps := 2000000) -implicitDefEqProofs +contextual (disch := first | assumption | omega | decide +kernel) only [push_cast, ↓capI, br2_true, br2_false, frk_tt, frk_tf, frk_f, frkD_tt, frkD_tf, frkD_f, pk2_true, pk2_false, imp_true, seval, Nat.reduceLeDiff, Nat.reduceEqDiff, reduceCtorEq, ↓reduceIte, fmN, fm0, take_N, toN1, slN_nil, encN, slN, cfg0, get_flat_part lenN, get_flat_drop lenN, len_flat lenN, V.rn, rns, qn, setPs, rnOs, Ob.rn, List.set_cons_zero, List.size_toArray, encX, rn_clX, Tryd.ntmps63]
      refine callO.part0 [0] (acc_yes h1) (by decide) rfl rfl ⟨by rfl, by simp, trivial⟩ ?_
      simp (maxSteps := 2000000) -implicitDefEqProofs +contextual (disch := first | assumption | omega | decide +kernel) only [push_cast, ↓capI, br2_true, br2_false, frk_tt, frk_tf, frk_f, frkD_tt, frkD_tf, frkD_f, pk2_true, pk2_false, imp_true, seval, Nat.reduceLeDiff, Nat.reduceEqDiff, reduceCtorEq, ↓reduceIte, fmN, fm0, take_N, toN1, slN_nil, encN, slN, cfg0, get_flat_part lenN, get_flat_drop lenN, len_flat lenN, V.rn, rns, qn, setPs, rnOs, Ob.rn, List.set_cons_zero, List.size_toArray, encX, rn_clX]
      refine endG.ret ([]) (by first | rfl | simp [fmN, fm0, belN, bel_Ns, bel_slN, bel_clX, bel_encX, fzs_ok, getO, setO, fzs, fz, fzH, Nat.beq, fmN, fm0, take_N, toN1, slN_nil, encN, slN, cfg0, get_flat_part lenN, get_flat_drop lenN, len_flat lenN, V.rn, rns, qn, setPs, rnOs, Ob.rn, List.set_cons_zero, List.size_toArray, encX, rn_clX, encX, tgX, clX, nN, op0]) (by simp) (by simp [fmN, fm0, belN, bel_Ns, bel_slN, bel_clX, bel_encX, fzs_ok, imp, lenOK_iff, List.take_of_length_le, evRes, getT, getO, setO, fzs, fz, fzH, Nat.beq, retV, Res.then, ldT, ldR, mkV, getV, fmN, fm0, take_N, toN1, slN_nil, encN, slN, cfg0, get_flat_part lenN, get_flat_drop lenN, len_flat lenN, V.rn, rns, qn, setPs, rnOs, Ob.rn, List.set_cons_zero, List.size_toArray, encX, rn_clX, Tryd.f63, encX, tgX, clX, nN, op0]) (by first | rfl | simp [fmN, fm0, belN, bel_Ns, bel_slN, bel_clX, bel_encX, encX, tgX, clX, nN, op0]) (by first | rfl | simp [fmN, fm0, belN, bel_Ns, bel_slN, bel_clX, bel_encX, encX, tgX, clX, nN, op0])
    have f1 := Bool.eq_false_iff.2 h1
    rw [if_neg h1]
    by_cases h2 : begins s [46] = true
    · have hl := begins_le h2
      simp only [List.length_cons, List.length_nil] at hl
      rw [if_pos h2]
      refine ⟨.leaf (op0 2), s.drop 1, ?_, by rw [List.length_drop]; omega, fun p t e => by cases e; exact ⟨rfl, rfl⟩⟩
      refine GC.walk tok mixed cfg0 Tryd.func63 rfl Tryd.call63 ?_; simp (maxSteps := 2000000) -implicitDefEqProofs +contextual (disch := first | assumption | omega | decide +kernel) only [push_cast, ↓capI, br2_true, br2_false, frk_tt, frk_tf, frk_f, frkD_tt, frkD_tf, frkD_f, pk2_true, pk2_false, imp_true, seval, Nat.reduceLeDiff, Nat.reduceEqDiff, reduceCtorEq, ↓reduceIte, fmN, fm0, take_N, toN1, slN_nil, encN, slN, cfg0, get_flat_part lenN, get_flat_drop lenN, len_flat lenN, V.rn, rns, qn, setPs, rnOs, Ob.rn, List.set_cons_zero, List.size_toArray, encX, rn_clX, Tryd.ntmps63]
      refine callO.part0 [0] (acc_no f1) (by decide) rfl rfl ⟨by rfl, by simp, trivial⟩ ?_
      simp (maxSteps := 2000000) -implicitDefEqProofs +contextual (disch := first | assumption | omega | decide +kernel) only [push_cast, ↓capI, br2_true, br2_false, frk_tt, frk_tf, frk_f, frkD_tt, frkD_tf, frkD_f, pk2_true, pk2_false, imp_true, seval, Nat.reduceLeDiff, Nat.reduceEqDiff, reduceCtorEq, ↓reduceIte, fmN, fm0, take_N, toN1, slN_nil, encN, slN, cfg0, get_flat_part lenN, get_flat_drop lenN, len_flat lenN, V.rn, rns, qn, setPs, rnOs, Ob.rn, List.set_cons_zero, List.size_toArray, encX, rn_clX]
      refine callO.part0 [0] (acc_yes h2) (by decide) rfl rfl ⟨by rfl, by simp, trivial⟩ ?_
      simp (maxSteps := 2000000) -implicitDefEqProofs +contextual (disch := first | assumption | omega | decide +kernel) only [push_cast, ↓capI, br2_true, br2_false, frk_tt, frk_tf, frk_f, frkD_tt, frkD_tf, frkD_f, pk2_true, pk2_false, imp_true, seval, Nat.reduceLeDiff, Nat.reduceEqDiff, reduceCtorEq, ↓reduceIte, fmN, fm0, take_N, toN1, slN_nil, encN, slN, cfg0, get_flat_part lenN, get_flat_drop lenN, len_flat lenN, V.rn, rns, qn, setPs, rnOs, Ob.rn, List.set_cons_zero, List.size_toArray, encX, rn_clX]
      refine endG.ret ([]) (by first | rfl | simp [fmN, fm0, belN, bel_Ns, bel_slN, bel_clX, bel_encX, fzs_ok, getO, setO, fzs, fz, fzH, Nat.beq, fmN, fm0, take_N, toN1, slN_nil, encN, slN, cfg0, get_flat_part lenN, get_flat_drop lenN, len_flat lenN, V.rn, rns, qn, setPs, rnOs, Ob.rn, List.set_cons_zero, List.size_toArray, encX, rn_clX, encX, tgX, clX, nN, op0]) (by simp) (by simp [fmN, fm0, belN, bel_Ns, bel_slN, bel_clX, bel_encX, fzs_ok, imp, lenOK_iff, List.take_of_length_le, evRes, getT, getO, setO, fzs, fz, fzH, Nat.beq, retV, Res.then, ldT, ldR, mkV, getV, fmN, fm0, take_N, toN1, slN_nil, encN, slN, cfg0, get_flat_part lenN, get_flat_drop lenN, len_flat lenN, V.rn, rns, qn, setPs, rnOs, Ob.rn, List.set_cons_zero, List.size_toArray, encX, rn_clX, Tryd.f63, encX, tgX, clX, nN, op0]) (by first | rfl | simp [fmN, fm0, belN, bel_Ns, bel_slN, bel_clX, bel_encX, encX, tgX, clX, nN, op0]) (by first | rfl | simp [fmN, fm0, belN, bel_Ns, bel_slN, bel_clX, bel_encX, encX, tgX, clX, nN, op0])
    have f2 := Bool.eq_false_iff.2 h2
    rw [if_neg h2]
    by_cases h3 : begins s [40] = true
    · have hl := begins_le h3
      simp only [List.length_cons, List.length_nil] at hl
      have hd : (s.drop 1).length = s.length - 1 := List.length_drop
      obtain ⟨p, r, g, g1, g2⟩ := pgAlt (by omega) (fun s hs => pgCat (by omega) (fun s hs => pgStr ih s hs) s hs) (s.drop 1) (by omega)
      rw [if_pos h3]
      rw [encX] at g
      cases hn : lstP (lstP (pStr (pAtm k)) 4 44) 5 124 (s.drop 1) with
      | none =>
        rw [hn] at g
        refine ⟨p, r, ?_, by omega, fun p t e => by cases e⟩
        refine GC.walk tok mixed cfg0 Tryd.func63 rfl Tryd.call63 ?_; simp (maxSteps := 2000000) -implicitDefEqProofs +contextual (disch := first | assumption | omega | decide +kernel) only [push_cast, ↓capI, br2_true, br2_false, frk_tt, frk_tf, frk_f, frkD_tt, frkD_tf, frkD_f, pk2_true, pk2_false, imp_true, seval, Nat.reduceLeDiff, Nat.reduceEqDiff, reduceCtorEq, ↓reduceIte, fmN, fm0, take_N, toN1, slN_nil, encN, slN, cfg0, get_flat_part lenN, get_flat_drop lenN, len_flat lenN, V.rn, rns, qn, setPs, rnOs, Ob.rn, List.set_cons_zero, List.size_toArray, encX, rn_clX, Tryd.ntmps63]
        refine callO.part0 [0] (acc_no f1) (by decide) rfl rfl ⟨by rfl, by simp, trivial⟩ ?_
        simp (maxSteps := 2000000) -implicitDefEqProofs +contextual (disch := first | assumption | omega | decide +kernel) only [push_cast, ↓capI, br2_true, br2_false, frk_tt, frk_tf, frk_f, frkD_tt, frkD_tf, frkD_f, pk2_true, pk2_false, imp_true, seval, Nat.reduceLeDiff, Nat.reduceEqDiff, reduceCtorEq, ↓reduceIte, fmN, fm0, take_N, toN1, slN_nil, encN, slN, cfg0, get_flat_part lenN, get_flat_drop lenN, len_flat lenN, V.rn, rns, qn, setPs, rnOs, Ob.rn, List.set_cons_zero, List.size_toArray, encX, rn_clX]
        refine callO.part0 [0] (acc_no f2) (by decide) rfl rfl ⟨by rfl, by simp, trivial⟩ ?_
        simp (maxSteps := 2000000) -implicitDefEqProofs +contextual (disch := first | assumption | omega | decide +kernel) only [push_cast, ↓capI, br2_true, br2_false, frk_tt, frk_tf, frk_f, frkD_tt, frkD_tf, frkD_f, pk2_true, pk2_false, imp_true, seval, Nat.reduceLeDiff, Nat.reduceEqDiff, reduceCtorEq, ↓reduceIte, fmN, fm0, take_N, toN1, slN_nil, encN, slN, cfg0, get_flat_part lenN, get_flat_drop lenN, len_flat lenN, V.rn, rns, qn, setPs, rnOs, Ob.rn, List.set_cons_zero, List.size_toArray, encX, rn_clX]
        refine callO.part0 [0] (acc_yes h3) (by decide) rfl rfl ⟨by rfl, by simp, trivial⟩ ?_
        simp (maxSteps := 2000000) -implicitDefEqProofs +contextual (disch := first | assumption | omega | decide +kernel) only [push_cast, ↓capI, br2_true, br2_false, frk_tt, frk_tf, frk_f, frkD_tt, frkD_tf, frkD_f, pk2_true, pk2_false, imp_true, seval, Nat.reduceLeDiff, Nat.reduceEqDiff, reduceCtorEq, ↓reduceIte, fmN, fm0, take_N, toN1, slN_nil, encN, slN, cfg0, get_flat_part lenN, get_flat_drop lenN, len_flat lenN, V.rn, rns, qn, setPs, rnOs, Ob.rn, List.set_cons_zero, List.size_toArray, encX, rn_clX, List.length_cons, List.length_nil]
        refine callO.part0 [0] g (by decide) rfl rfl ⟨by rfl, by simp, trivial⟩ ?_
        simp (maxSteps := 2000000) -implicitDefEqProofs +contextual (disch := first | assumption | omega | decide +kernel) only [push_cast, ↓capI, br2_true, br2_false, frk_tt, frk_tf, frk_f, frkD_tt, frkD_tf, frkD_f, pk2_true, pk2_false, imp_true, seval, Nat.reduceLeDiff, Nat.reduceEqDiff, reduceCtorEq, ↓reduceIte, fmN, fm0, take_N, toN1, slN_nil, encN, slN, cfg0, get_flat_part lenN, get_flat_drop lenN, len_flat lenN, V.rn, rns, qn, setPs, rnOs, Ob.rn, List.set_cons_zero, List.size_toArray, encX, rn_clX]
        refine endG.ret ([]) (by first | rfl | simp [fmN, fm0, belN, bel_Ns, bel_slN, bel_clX, bel_encX, fzs_ok, getO, setO, fzs, fz, fzH, Nat.beq, fmN, fm0, take_N, toN1, slN_nil, encN, slN, cfg0, get_flat_part lenN, get_flat_drop lenN, len_flat lenN, V.rn, rns, qn, setPs, rnOs, Ob.rn, List.set_cons_zero, List.size_toArray, encX, rn_clX, encX]) (by simp) (by simp [fmN, fm0, belN, bel_Ns, bel_slN, bel_clX, bel_encX, fzs_ok, imp, lenOK_iff, List.take_of_length_le, evRes, getT, getO, setO, fzs, fz, fzH, Nat.beq, retV, Res.then, ldT, ldR, mkV, getV, fmN, fm0, take_N, toN1, slN_nil, encN, slN, cfg0, get_flat_part lenN, get_flat_drop lenN, len_flat lenN, V.rn, rns, qn, setPs, rnOs, Ob.rn, List.set_cons_zero, List.size_toArray, encX, rn_clX, Tryd.f63, encX]) (by first | rfl | simp [fmN, fm0, belN, bel_Ns, bel_slN, bel_clX, bel_encX, encX]) (by first | rfl | simp [fmN, fm0, belN, bel_Ns, bel_slN, bel_clX, bel_encX, encX])
      | some q =>
        obtain ⟨p', u⟩ := q
        rw [hn] at g
        obtain ⟨e1, e2⟩ := g2 _ _ hn
        subst e1 e2
        simp only
        cases hb : begins r [41]
        · rw [if_neg (by simp)]
          refine ⟨p, r, ?_, by omega, fun p t e => by cases e⟩
          refine GC.walk tok mixed cfg0 Tryd.func63 rfl Tryd.call63 ?_; simp (maxSteps := 2000000) -implicitDefEqProofs +contextual (disch := first | assumption | omega | decide +kernel) only [push_cast, ↓capI, br2_true, br2_false, frk_tt, frk_tf, frk_f, frkD_tt, frkD_tf, frkD_f, pk2_true, pk2_false, imp_true, seval, Nat.reduceLeDiff, Nat.reduceEqDiff, reduceCtorEq, ↓reduceIte, fmN, fm0, take_N, toN1, slN_nil, encN, slN, cfg0, get_flat_part lenN, get_flat_drop lenN, len_flat lenN, V.rn, rns, qn, setPs, rnOs, Ob.rn, List.set_cons_zero, List.size_toArray, encX, rn_clX, Tryd.ntmps63]
          refine callO.part0 [0] (acc_no f1) (by decide) rfl rfl ⟨by rfl, by simp, trivial⟩ ?_
          simp (maxSteps := 2000000) -implicitDefEqProofs +contextual (disch := first | assumption | omega | decide +kernel) only [push_cast, ↓capI, br2_true, br2_false, frk_tt, frk_tf, frk_f, frkD_tt, frkD_tf, frkD_f, pk2_true, pk2_false, imp_true, seval, Nat.reduceLeDiff, Nat.reduceEqDiff, reduceCtorEq, ↓reduceIte, fmN, fm0, take_N, toN1, slN_nil, encN, slN, cfg0, get_flat_part lenN, get_flat_drop lenN, len_flat lenN, V.rn, rns, qn, setPs, rnOs, Ob.rn, List.set_cons_zero, List.size_toArray, encX, rn_clX]
          refine callO.part0 [0] (acc_no f2) (by decide) rfl rfl ⟨by rfl, by simp, trivial⟩ ?_
          simp (maxSteps := 2000000) -implicitDefEqProofs +contextual (disch := first | assumption | omega | decide +kernel) only [push_cast, ↓capI, br2_true, br2_false, frk_tt, frk_tf, frk_f, frkD_tt, frkD_tf, frkD_f, pk2_true, pk2_false, imp_true, seval, Nat.reduceLeDiff, Nat.reduceEqDiff, reduceCtorEq, ↓reduceIte, fmN, fm0, take_N, toN1, slN_nil, encN, slN, cfg0, get_flat_part lenN, get_flat_drop lenN, len_flat lenN, V.rn, rns, qn, setPs, rnOs, Ob.rn, List.set_cons_zero, List.size_toArray, encX, rn_clX]
          refine callO.part0 [0] (acc_yes h3) (by decide) rfl rfl ⟨by rfl, by simp, trivial⟩ ?_
          simp (maxSteps := 2000000) -implicitDefEqProofs +contextual (disch := first | assumption | omega | decide +kernel) only [push_cast, ↓capI, br2_true, br2_false, frk_tt, frk_tf, frk_f, frkD_tt, frkD_tf, frkD_f, pk2_true, pk2_false, imp_true, seval, Nat.reduceLeDiff, Nat.reduceEqDiff, reduceCtorEq, ↓reduceIte, fmN, fm0, take_N, toN1, slN_nil, encN, slN, cfg0, get_flat_part lenN, get_flat_drop lenN, len_flat lenN, V.rn, rns, qn, setPs, rnOs, Ob.rn, List.set_cons_zero, List.size_toArray, encX, rn_clX, List.length_cons, List.length_nil]
          refine callO.part0 [0] g (by decide) rfl rfl ⟨by rfl, by simp, trivial⟩ ?_
          simp (maxSteps := 2000000) -implicitDefEqProofs +contextual (disch := first | assumption | omega | decide +kernel) only [push_cast, ↓capI, br2_true, br2_false, frk_tt, frk_tf, frk_f, frkD_tt, frkD_tf, frkD_f, pk2_true, pk2_false, imp_true, seval, Nat.reduceLeDiff, Nat.reduceEqDiff, reduceCtorEq, ↓reduceIte, fmN, fm0, take_N, toN1, slN_nil, encN, slN, cfg0, get_flat_part lenN, get_flat_drop lenN, len_flat lenN, V.rn, rns, qn, setPs, rnOs, Ob.rn, List.set_cons_zero, List.size_toArray, encX, rn_clX]
          refine callO.part0 [0] (acc_no hb) (by decide) rfl rfl ⟨by rfl, by simp, trivial⟩ ?_
          simp (maxSteps := 2000000) -implicitDefEqProofs +contextual (disch := first | assumption | omega | decide +kernel) only [push_cast, ↓capI, br2_true, br2_false, frk_tt, frk_tf, frk_f, frkD_tt, frkD_tf, frkD_f, pk2_true, pk2_false, imp_true, seval, Nat.reduceLeDiff, Nat.reduceEqDiff, reduceCtorEq, ↓reduceIte, fmN, fm0, take_N, toN1, slN_nil, encN, slN, cfg0, get_flat_part lenN, get_flat_drop lenN, len_flat lenN, V.rn, rns, qn, setPs, rnOs, Ob.rn, List.set_cons_zero, List.size_toArray, encX, rn_clX]
          refine endG.ret ([]) (by first | rfl | simp [fmN, fm0, belN, bel_Ns, bel_slN, bel_clX, bel_encX, fzs_ok, getO, setO, fzs, fz, fzH, Nat.beq, fmN, fm0, take_N, toN1, slN_nil, encN, slN, cfg0, get_flat_part lenN, get_flat_drop lenN, len_flat lenN, V.rn, rns, qn, setPs, rnOs, Ob.rn, List.set_cons_zero, List.size_toArray, encX, rn_clX, encX]) (by simp) (by simp [fmN, fm0, belN, bel_Ns, bel_slN, bel_clX, bel_encX, fzs_ok, imp, lenOK_iff, List.take_of_length_le, evRes, getT, getO, setO, fzs, fz, fzH, Nat.beq, retV, Res.then, ldT, ldR, mkV, getV, fmN, fm0, take_N, toN1, slN_nil, encN, slN, cfg0, get_flat_part lenN, get_flat_drop lenN, len_flat lenN, V.rn, rns, qn, setPs, rnOs, Ob.rn, List.set_cons_zero, List.size_toArray, encX, rn_clX, Tryd.f63, encX]) (by first | rfl | simp [fmN, fm0, belN, bel_Ns, bel_slN, bel_clX, bel_encX, encX]) (by first | rfl | simp [fmN, fm0, belN, bel_Ns, bel_slN, bel_clX, bel_encX, encX])
        · rw [if_pos rfl]
          refine ⟨p, r.drop 1, ?_, by rw [List.length_drop]; omega, fun p t e => by cases e; exact ⟨rfl, rfl⟩⟩
          refine GC.walk tok mixed cfg0 Tryd.func63 rfl Tryd.call63 ?_; simp (maxSteps := 2000000) -implicitDefEqProofs +contextual (disch := first | assumption | omega | decide +kernel) only [push_cast, ↓capI, br2_true, br2_false, frk_tt, frk_tf, frk_f, frkD_tt, frkD_tf, frkD_f, pk2_true, pk2_false, imp_true, seval, Nat.reduceLeDiff, Nat.reduceEqDiff, reduceCtorEq, ↓reduceIte, fmN, fm0, take_N, toN1, slN_nil, encN, slN, cfg0, get_flat_part lenN, get_flat_drop lenN, len_flat lenN, V.rn, rns, qn, setPs, rnOs, Ob.rn, List.set_cons_zero, List.size_toArray, encX, rn_clX, Tryd.ntmps63]
          refine callO.part0 [0] (acc_no f1) (by decide) rfl rfl ⟨by rfl, by simp, trivial⟩ ?_
          simp (maxSteps := 2000000) -implicitDefEqProofs +contextual (disch := first | assumption | omega | decide +kernel) only [push_cast, ↓capI, br2_true, br2_false, frk_tt, frk_tf, frk_f, frkD_tt, frkD_tf, frkD_f, pk2_true, pk2_false, imp_true, seval, Nat.reduceLeDiff, Nat.reduceEqDiff, reduceCtorEq, ↓reduceIte, fmN, fm0, take_N, toN1, slN_nil, encN, slN, cfg0, get_flat_part lenN, get_flat_drop lenN, len_flat lenN, V.rn, rns, qn, setPs, rnOs, Ob.rn, List.set_cons_zero, List.size_toArray, encX, rn_clX]
          refine callO.part0 [0] (acc_no f2) (by decide) rfl rfl ⟨by rfl, by simp, trivial⟩ ?_
          simp (maxSteps := 2000000) -implicitDefEqProofs +contextual (disch := first | assumption | omega | decide +kernel) only [push_cast, ↓capI, br2_true, br2_false, frk_tt, frk_tf, frk_f, frkD_tt, frkD_tf, frkD_f, pk2_true, pk2_false, imp_true, seval, Nat.reduceLeDiff, Nat.reduceEqDiff, reduceCtorEq, ↓reduceIte, fmN, fm0, take_N, toN1, slN_nil, encN, slN, cfg0, get_flat_part lenN, get_flat_drop lenN, len_flat lenN, V.rn, rns, qn, setPs, rnOs, Ob.rn, List.set_cons_zero, List.size_toArray, encX, rn_clX]
          refine callO.part0 [0] (acc_yes h3) (by decide) rfl rfl ⟨by rfl, by simp, trivial⟩ ?_
          simp (maxSteps := 2000000) -implicitDefEqProofs +contextual (disch := first | assumption | omega | decide +kernel) only [push_cast, ↓capI, br2_true, br2_false, frk_tt, frk_tf, frk_f, frkD_tt, frkD_tf, frkD_f, pk2_true, pk2_false, imp_true, seval, Nat.reduceLeDiff, Nat.reduceEqDiff, reduceCtorEq, ↓reduceIte, fmN, fm0, take_N, toN1, slN_nil, encN, slN, cfg0, get_flat_part lenN, get_flat_drop lenN, len_flat lenN, V.rn, rns, qn, setPs, rnOs, Ob.rn, List.set_cons_zero, List.size_toArray, encX, rn_clX, List.length_cons, List.length_nil]
          refine callO.part0 [0] g (by decide) rfl rfl ⟨by rfl, by simp, trivial⟩ ?_
          simp (maxSteps := 2000000) -implicitDefEqProofs +contextual (disch := first | assumption | omega | decide +kernel) only [push_cast, ↓capI, br2_true, br2_false, frk_tt, frk_tf, frk_f, frkD_tt, frkD_tf, frkD_f, pk2_true, pk2_false, imp_true, seval, Nat.reduceLeDiff, Nat.reduceEqDiff, reduceCtorEq, ↓reduceIte, fmN, fm0, take_N, toN1, slN_nil, encN, slN, cfg0, get_flat_part lenN, get_flat_drop lenN, len_flat lenN, V.rn, rns, qn, setPs, rnOs, Ob.rn, List.set_cons_zero, List.size_toArray, encX, rn_clX]
          refine callO.part0 [0] (acc_yes hb) (by decide) rfl rfl ⟨by rfl, by simp, trivial⟩ ?_
          simp (maxSteps := 2000000) -implicitDefEqProofs +contextual (disch := first | assumption | omega | decide +kernel) only [push_cast, ↓capI, br2_true, br2_false, frk_tt, frk_tf, frk_f, frkD_tt, frkD_tf, frkD_f, pk2_true, pk2_false, imp_true, seval, Nat.reduceLeDiff, Nat.reduceEqDiff, reduceCtorEq, ↓reduceIte, fmN, fm0, take_N, toN1, slN_nil, encN, slN, cfg0, get_flat_part lenN, get_flat_drop lenN, len_flat lenN, V.rn, rns, qn, setPs, rnOs, Ob.rn, List.set_cons_zero, List.size_toArray, encX, rn_clX]
          refine endG.ret ([]) (by first | rfl | simp [fmN, fm0, belN, bel_Ns, bel_slN, bel_clX, bel_encX, fzs_ok, getO, setO, fzs, fz, fzH, Nat.beq, fmN, fm0, take_N, toN1, slN_nil, encN, slN, cfg0, get_flat_part lenN, get_flat_drop lenN, len_flat lenN, V.rn, rns, qn, setPs, rnOs, Ob.rn, List.set_cons_zero, List.size_toArray, encX, rn_clX, encX]) (by simp) (by simp [fmN, fm0, belN, bel_Ns, bel_slN, bel_clX, bel_encX, fzs_ok, imp, lenOK_iff, List.take_of_length_le, evRes, getT, getO, setO, fzs, fz, fzH, Nat.beq, retV, Res.then, ldT, ldR, mkV, getV, fmN, fm0, take_N, toN1, slN_nil, encN, slN, cfg0, get_flat_part lenN, get_flat_drop lenN, len_flat lenN, V.rn, rns, qn, setPs, rnOs, Ob.rn, List.set_cons_zero, List.size_toArray, encX, rn_clX, Tryd.f63, encX]) (by first | rfl | simp [fmN, fm0, belN, bel_Ns, bel_slN, bel_clX, bel_encX, encX]) (by first | rfl | simp [fmN, fm0, belN, bel_Ns, bel_slN, bel_clX, bel_encX, encX])
    rw [if_neg h3]
    exact pgNum s (by omega) f1 f2 (Bool.eq_false_iff.2 h3)
theorem pg36 (s : List UInt8) (hs : s.length ≤ 100000) : Ans 36 [] s (pOr (s.length + 1) s) :=
  pgAlt (n := s.length + 1) (by omega) (fun t ht => pgCat (n := s.length + 1) (by omega) (fun t ht => pgStr (pg63 (s.length + 1) (by omega)) t ht) t ht) s (Nat.lt_succ_self _)
end Go.Proofs.YtginpkchjeooeaaDoor

/- Chapter 44: integers written by the program and by the reference. -/
set_option maxRecDepth 100000
set_option maxHeartbeats 4000000
set_option linter.all false
namespace Go.Proofs.YtginpkchjeooeaaDoor
open Go.Vm

/-- the digits of a number below 256 -/
def dec8 (n : Nat) : List UInt8 :=
  if n < 10 then [UInt8.ofNat (48 + n)] else if n < 100 then [UInt8.ofNat (48 + n / 10), UInt8.ofNat (48 + n % 10)]
  else [UInt8.ofNat (48 + n / 100), UInt8.ofNat (48 + n / 10 % 10), UInt8.ofNat (48 + n % 10)]
theorem fin100 {P : Nat → Prop} (h : ∀ m : Fin 100, P m.1) {n : Nat} (hn : n < 100) : P n := h ⟨n, hn⟩
theorem u32_id {x : Int} (h : 0 ≤ x ∧ x < 4294967296) : IntKind.u32.wrap x = x := by
  unfold IntKind.wrap
  simp [IntKind.bits, IntKind.signed]
  omega
theorem u8_id {x : Int} (h : 0 ≤ x ∧ x < 256) : IntKind.u8.wrap x = x := by
  unfold IntKind.wrap
  simp [IntKind.bits, IntKind.signed]
  omega
theorem fin10 {P : Nat → Prop} (h : ∀ m : Fin 10, P m.1) {n : Nat} (hn : n < 10) : P n := h ⟨n, hn⟩
theorem fin10n {P : Nat → Prop} (h : ∀ m : Fin 10, P m.1) : ∀ n, n < 10 → P n := fun n hn => h ⟨n, hn⟩
theorem fin100n {P : Nat → Prop} (h : ∀ m : Fin 100, 10 ≤ m.1 → P m.1) : ∀ n, n < 100 → 10 ≤ n → P n := fun n hn h2 => h ⟨n, hn⟩ h2
theorem gl0 : (GlobTab.gl 0 : Option (List (IntKind × Int))) = some [(.u64, 1), (.u64, 10), (.u64, 100), (.u64, 1000), (.u64, 10000), (.u64, 100000), (.u64, 1000000), (.u64, 10000000), (.u64, 100000000), (.u64, 1000000000), (.u64, 10000000000), (.u64, 100000000000), (.u64, 1000000000000), (.u64, 10000000000000), (.u64, 100000000000000), (.u64, 1000000000000000), (.u64, 10000000000000000), (.u64, 100000000000000000), (.u64, 1000000000000000000), (.u64, 10000000000000000000)] := rfl
theorem pc70 (n : Nat) (hn : n < 100) : PC Tryd.prog 70 [.int .i64 n] (.str (dec8 n)) := by
  refine PC.walk tok mixed cfg0 Tryd.func70 rfl Tryd.call70 (by simp ) (by first | rfl | simp ) ?_; simp (maxSteps := 2000000) -implicitDefEqProofs +contextual (disch := first | assumption | omega | decide +kernel) only [push_cast, ↓capI, br2_true, br2_false, frk_tt, frk_tf, frk_f, frkD_tt, frkD_tf, frkD_f, pk2_true, pk2_false, imp_true, seval, Nat.reduceLeDiff, Nat.reduceEqDiff, reduceCtorEq, ↓reduceIte, cfg0, take_rest, ibeq_dec, V.rn, rns, qn, setPs, rnOs, Ob.rn, gl0, glV, List.map, V.st, List.set_cons_zero, List.size_toArray, Tryd.ntmps70]
  refine ⟨fun h => ?_, fun h => ?_⟩
  · have h2 : n < 10 := by omega
    refine endK.ret ?_ (by first | rfl | simp ); simp [evRes, getT, retV, Tryd.f70]
    clear h hn
    revert n
    apply fin10n
    decide
  · have hl : (n : Int) * 2 + 2 ≤ 200 := by omega
    refine ⟨hl, fun _ => ?_⟩
    have h3 : 10 ≤ n := by omega
    have e1 : ((n : Int) * 2 + 2).toNat - ((n : Int) * 2).toNat = 2 := by omega
    have e2 : ((n : Int) * 2).toNat = n * 2 := by omega
    refine endK.ret ?_ (by first | rfl | simp ); simp [evRes, getT, retV, Tryd.f70,  e1, e2]
    rename_i hx
    clear h hl e1 e2 hx
    revert n
    apply fin100n
    decide
theorem pc84 (n : Nat) (hn : n = 7 ∨ n = 8) : PC Tryd.prog 84 [.int .i64 n] (.int .i64 2) := by
  rcases hn with rfl | rfl
  · refine PC.walk tok mixed cfg0 Tryd.func84 rfl Tryd.call84 (by simp ) (by first | rfl | simp ) ?_; simp (maxSteps := 2000000) -implicitDefEqProofs +contextual (disch := first | assumption | omega | decide +kernel) only [push_cast, ↓capI, br2_true, br2_false, frk_tt, frk_tf, frk_f, frkD_tt, frkD_tf, frkD_f, pk2_true, pk2_false, imp_true, seval, Nat.reduceLeDiff, Nat.reduceEqDiff, reduceCtorEq, ↓reduceIte, cfg0, take_rest, ibeq_dec, V.rn, rns, qn, setPs, rnOs, Ob.rn, gl0, glV, List.map, V.st, List.set_cons_zero, List.size_toArray, Tryd.ntmps84]
    refine endK.ret ?_ (by first | rfl | simp ); simp [evRes, getT, retV, Tryd.f84]
    rfl
  · refine PC.walk tok mixed cfg0 Tryd.func84 rfl Tryd.call84 (by simp ) (by first | rfl | simp ) ?_; simp (maxSteps := 2000000) -implicitDefEqProofs +contextual (disch := first | assumption | omega | decide +kernel) only [push_cast, ↓capI, br2_true, br2_false, frk_tt, frk_tf, frk_f, frkD_tt, frkD_tf, frkD_f, pk2_true, pk2_false, imp_true, seval, Nat.reduceLeDiff, Nat.reduceEqDiff, reduceCtorEq, ↓reduceIte, cfg0, take_rest, ibeq_dec, V.rn, rns, qn, setPs, rnOs, Ob.rn, gl0, glV, List.map, V.st, List.set_cons_zero, List.size_toArray, Tryd.ntmps84]
    refine endK.ret ?_ (by first | rfl | simp ); simp [evRes, getT, retV, Tryd.f84]
    rfl
theorem pc86 (b : Bool) : PC Tryd.prog 86 [.bool b] (.int .i64 (if b then 1 else 0)) := by
  cases b
  · refine PC.walk tok mixed cfg0 Tryd.func86 rfl Tryd.call86 (by simp ) (by first | rfl | simp ) ?_; simp (maxSteps := 2000000) -implicitDefEqProofs +contextual (disch := first | assumption | omega | decide +kernel) only [push_cast, ↓capI, br2_true, br2_false, frk_tt, frk_tf, frk_f, frkD_tt, frkD_tf, frkD_f, pk2_true, pk2_false, imp_true, seval, Nat.reduceLeDiff, Nat.reduceEqDiff, reduceCtorEq, ↓reduceIte, cfg0, take_rest, ibeq_dec, V.rn, rns, qn, setPs, rnOs, Ob.rn, gl0, glV, List.map, V.st, List.set_cons_zero, List.size_toArray, Tryd.ntmps86]
    refine endK.ret ?_ (by first | rfl | simp ); simp [evRes, getT, retV, Tryd.f86]
  · refine PC.walk tok mixed cfg0 Tryd.func86 rfl Tryd.call86 (by simp ) (by first | rfl | simp ) ?_; simp (maxSteps := 2000000) -implicitDefEqProofs +contextual (disch := first | assumption | omega | decide +kernel) only [push_cast, ↓capI, br2_true, br2_false, frk_tt, frk_tf, frk_f, frkD_tt, frkD_tf, frkD_f, pk2_true, pk2_false, imp_true, seval, Nat.reduceLeDiff, Nat.reduceEqDiff, reduceCtorEq, ↓reduceIte, cfg0, take_rest, ibeq_dec, V.rn, rns, qn, setPs, rnOs, Ob.rn, gl0, glV, List.map, V.st, List.set_cons_zero, List.size_toArray, Tryd.ntmps86]
    refine endK.ret ?_ (by first | rfl | simp ); simp [evRes, getT, retV, Tryd.f86]
theorem pc71 (n : Nat) (hn : 100 ≤ n ∧ n < 256) : PC Tryd.prog 71 [.int .u64 n] (.int .i64 3) := by
  have h64 : len64 n = 7 ∨ len64 n = 8 := by
    have : n.log2 = 6 ∨ n.log2 = 7 := by
      have h1 : 6 ≤ n.log2 := (Nat.le_log2 (by omega)).2 (by omega)
      have h2 : n.log2 < 8 := (Nat.log2_lt (by omega)).2 (by omega)
      omega
    unfold len64
    rw [if_neg (by omega)]
    omega
  refine PC.walk tok mixed cfg0 Tryd.func71 rfl Tryd.call71 (by simp ) (by first | rfl | simp ) ?_; simp (maxSteps := 2000000) -implicitDefEqProofs +contextual (disch := first | assumption | omega | decide +kernel) only [push_cast, ↓capI, br2_true, br2_false, frk_tt, frk_tf, frk_f, frkD_tt, frkD_tf, frkD_f, pk2_true, pk2_false, imp_true, seval, Nat.reduceLeDiff, Nat.reduceEqDiff, reduceCtorEq, ↓reduceIte, cfg0, take_rest, ibeq_dec, V.rn, rns, qn, setPs, rnOs, Ob.rn, gl0, glV, List.map, V.st, List.set_cons_zero, List.size_toArray, Tryd.ntmps71]
  refine callO.pc (pc85 n (by omega)) ?_
  simp (maxSteps := 2000000) -implicitDefEqProofs +contextual (disch := first | assumption | omega | decide +kernel) only [push_cast, ↓capI, br2_true, br2_false, frk_tt, frk_tf, frk_f, frkD_tt, frkD_tf, frkD_f, pk2_true, pk2_false, imp_true, seval, Nat.reduceLeDiff, Nat.reduceEqDiff, reduceCtorEq, ↓reduceIte, cfg0, take_rest, ibeq_dec, V.rn, rns, qn, setPs, rnOs, Ob.rn, gl0, glV, List.map, V.st, List.set_cons_zero, List.size_toArray]
  refine callO.pc (pc84 _ h64) ?_
  simp (maxSteps := 2000000) -implicitDefEqProofs +contextual (disch := first | assumption | omega | decide +kernel) only [push_cast, ↓capI, br2_true, br2_false, frk_tt, frk_tf, frk_f, frkD_tt, frkD_tf, frkD_f, pk2_true, pk2_false, imp_true, seval, Nat.reduceLeDiff, Nat.reduceEqDiff, reduceCtorEq, ↓reduceIte, cfg0, take_rest, ibeq_dec, V.rn, rns, qn, setPs, rnOs, Ob.rn, gl0, glV, List.map, V.st, List.set_cons_zero, List.size_toArray]
  have h100 : (100 : Int) ≤ (n : Int) := by omega
  refine callO.pc (pc86 true) ?_
  simp (maxSteps := 2000000) -implicitDefEqProofs +contextual (disch := first | assumption | omega | decide +kernel) only [push_cast, ↓capI, br2_true, br2_false, frk_tt, frk_tf, frk_f, frkD_tt, frkD_tf, frkD_f, pk2_true, pk2_false, imp_true, seval, Nat.reduceLeDiff, Nat.reduceEqDiff, reduceCtorEq, ↓reduceIte, cfg0, take_rest, ibeq_dec, V.rn, rns, qn, setPs, rnOs, Ob.rn, gl0, glV, List.map, V.st, List.set_cons_zero, List.size_toArray]
  refine endK.ret ?_ (by first | rfl | simp ); simp [evRes, getT, retV, Tryd.f71]
def z24 : List V := List.replicate 24 (.int .u8 0)
def buf3 (n : Nat) : List V := [.int .u8 0, .int .u8 ((48 + n / 100 : Nat) : Int), .int .u8 ((48 + n / 10 % 10 : Nat) : Int), .int .u8 ((48 + n % 10 : Nat) : Int)] ++ List.replicate 20 (.int .u8 0)
theorem bigL : ((List.append (List.append [48, 48, 48, 49, 48, 50, 48, 51, 48, 52, 48, 53, 48, 54, 48, 55, 48, 56, 48, 57, 49, 48, 49, 49, 49, 50, 49, 51, 49, 52, 49, 53, 49, 54, 49, 55, 49, 56, 49, 57, 50, 48, 50, 49, 50, 50, 50, 51, 50, 52] [50, 53, 50, 54, 50, 55, 50, 56, 50, 57, 51, 48, 51, 49, 51, 50, 51, 51, 51, 52, 51, 53, 51, 54, 51, 55, 51, 56, 51, 57, 52, 48, 52, 49, 52, 50, 52, 51, 52, 52, 52, 53, 52, 54, 52, 55, 52, 56, 52, 57]) (List.append [53, 48, 53, 49, 53, 50, 53, 51, 53, 52, 53, 53, 53, 54, 53, 55, 53, 56, 53, 57, 54, 48, 54, 49, 54, 50, 54, 51, 54, 52, 54, 53, 54, 54, 54, 55, 54, 56, 54, 57, 55, 48, 55, 49, 55, 50, 55, 51, 55, 52] [55, 53, 55, 54, 55, 55, 55, 56, 55, 57, 56, 48, 56, 49, 56, 50, 56, 51, 56, 52, 56, 53, 56, 54, 56, 55, 56, 56, 56, 57, 57, 48, 57, 49, 57, 50, 57, 51, 57, 52, 57, 53, 57, 54, 57, 55, 57, 56, 57, 57])) : List UInt8).length = 200 := rfl
theorem bigA (m : Nat) (h : m < 100) : (((List.append (List.append [48, 48, 48, 49, 48, 50, 48, 51, 48, 52, 48, 53, 48, 54, 48, 55, 48, 56, 48, 57, 49, 48, 49, 49, 49, 50, 49, 51, 49, 52, 49, 53, 49, 54, 49, 55, 49, 56, 49, 57, 50, 48, 50, 49, 50, 50, 50, 51, 50, 52] [50, 53, 50, 54, 50, 55, 50, 56, 50, 57, 51, 48, 51, 49, 51, 50, 51, 51, 51, 52, 51, 53, 51, 54, 51, 55, 51, 56, 51, 57, 52, 48, 52, 49, 52, 50, 52, 51, 52, 52, 52, 53, 52, 54, 52, 55, 52, 56, 52, 57]) (List.append [53, 48, 53, 49, 53, 50, 53, 51, 53, 52, 53, 53, 53, 54, 53, 55, 53, 56, 53, 57, 54, 48, 54, 49, 54, 50, 54, 51, 54, 52, 54, 53, 54, 54, 54, 55, 54, 56, 54, 57, 55, 48, 55, 49, 55, 50, 55, 51, 55, 52] [55, 53, 55, 54, 55, 55, 55, 56, 55, 57, 56, 48, 56, 49, 56, 50, 56, 51, 56, 52, 56, 53, 56, 54, 56, 55, 56, 56, 56, 57, 57, 48, 57, 49, 57, 50, 57, 51, 57, 52, 57, 53, 57, 54, 57, 55, 57, 56, 57, 57])) : List UInt8).getD (m * 2) 0).toNat = 48 + m / 10 := by
  revert m
  exact fun m h => (by decide : ∀ m : Fin 100, (((List.append (List.append [48, 48, 48, 49, 48, 50, 48, 51, 48, 52, 48, 53, 48, 54, 48, 55, 48, 56, 48, 57, 49, 48, 49, 49, 49, 50, 49, 51, 49, 52, 49, 53, 49, 54, 49, 55, 49, 56, 49, 57, 50, 48, 50, 49, 50, 50, 50, 51, 50, 52] [50, 53, 50, 54, 50, 55, 50, 56, 50, 57, 51, 48, 51, 49, 51, 50, 51, 51, 51, 52, 51, 53, 51, 54, 51, 55, 51, 56, 51, 57, 52, 48, 52, 49, 52, 50, 52, 51, 52, 52, 52, 53, 52, 54, 52, 55, 52, 56, 52, 57]) (List.append [53, 48, 53, 49, 53, 50, 53, 51, 53, 52, 53, 53, 53, 54, 53, 55, 53, 56, 53, 57, 54, 48, 54, 49, 54, 50, 54, 51, 54, 52, 54, 53, 54, 54, 54, 55, 54, 56, 54, 57, 55, 48, 55, 49, 55, 50, 55, 51, 55, 52] [55, 53, 55, 54, 55, 55, 55, 56, 55, 57, 56, 48, 56, 49, 56, 50, 56, 51, 56, 52, 56, 53, 56, 54, 56, 55, 56, 56, 56, 57, 57, 48, 57, 49, 57, 50, 57, 51, 57, 52, 57, 53, 57, 54, 57, 55, 57, 56, 57, 57])) : List UInt8).getD (m.1 * 2) 0).toNat = 48 + m.1 / 10) ⟨m, h⟩
theorem bigB (m : Nat) (h : m < 100) : (((List.append (List.append [48, 48, 48, 49, 48, 50, 48, 51, 48, 52, 48, 53, 48, 54, 48, 55, 48, 56, 48, 57, 49, 48, 49, 49, 49, 50, 49, 51, 49, 52, 49, 53, 49, 54, 49, 55, 49, 56, 49, 57, 50, 48, 50, 49, 50, 50, 50, 51, 50, 52] [50, 53, 50, 54, 50, 55, 50, 56, 50, 57, 51, 48, 51, 49, 51, 50, 51, 51, 51, 52, 51, 53, 51, 54, 51, 55, 51, 56, 51, 57, 52, 48, 52, 49, 52, 50, 52, 51, 52, 52, 52, 53, 52, 54, 52, 55, 52, 56, 52, 57]) (List.append [53, 48, 53, 49, 53, 50, 53, 51, 53, 52, 53, 53, 53, 54, 53, 55, 53, 56, 53, 57, 54, 48, 54, 49, 54, 50, 54, 51, 54, 52, 54, 53, 54, 54, 54, 55, 54, 56, 54, 57, 55, 48, 55, 49, 55, 50, 55, 51, 55, 52] [55, 53, 55, 54, 55, 55, 55, 56, 55, 57, 56, 48, 56, 49, 56, 50, 56, 51, 56, 52, 56, 53, 56, 54, 56, 55, 56, 56, 56, 57, 57, 48, 57, 49, 57, 50, 57, 51, 57, 52, 57, 53, 57, 54, 57, 55, 57, 56, 57, 57])) : List UInt8).getD (m * 2 + 1) 0).toNat = 48 + m % 10 := by
  revert m
  exact fun m h => (by decide : ∀ m : Fin 100, (((List.append (List.append [48, 48, 48, 49, 48, 50, 48, 51, 48, 52, 48, 53, 48, 54, 48, 55, 48, 56, 48, 57, 49, 48, 49, 49, 49, 50, 49, 51, 49, 52, 49, 53, 49, 54, 49, 55, 49, 56, 49, 57, 50, 48, 50, 49, 50, 50, 50, 51, 50, 52] [50, 53, 50, 54, 50, 55, 50, 56, 50, 57, 51, 48, 51, 49, 51, 50, 51, 51, 51, 52, 51, 53, 51, 54, 51, 55, 51, 56, 51, 57, 52, 48, 52, 49, 52, 50, 52, 51, 52, 52, 52, 53, 52, 54, 52, 55, 52, 56, 52, 57]) (List.append [53, 48, 53, 49, 53, 50, 53, 51, 53, 52, 53, 53, 53, 54, 53, 55, 53, 56, 53, 57, 54, 48, 54, 49, 54, 50, 54, 51, 54, 52, 54, 53, 54, 54, 54, 55, 54, 56, 54, 57, 55, 48, 55, 49, 55, 50, 55, 51, 55, 52] [55, 53, 55, 54, 55, 55, 55, 56, 55, 57, 56, 48, 56, 49, 56, 50, 56, 51, 56, 52, 56, 53, 56, 54, 56, 55, 56, 56, 56, 57, 57, 48, 57, 49, 57, 50, 57, 51, 57, 52, 57, 53, 57, 54, 57, 55, 57, 56, 57, 57])) : List UInt8).getD (m.1 * 2 + 1) 0).toNat = 48 + m.1 % 10) ⟨m, h⟩
theorem g80 (n : Nat) (hn : 100 ≤ n ∧ n < 256) : GCall Tryd.prog 72 [.buf 0 0 1 3 1, .int .u64 n] [.cells 0 z24] (.tup []) [.cells 0 (buf3 n)] := by
  unfold z24
  simp only [List.replicate]
  refine GC.walk tok mixed cfg0 Tryd.func72 rfl Tryd.call72 ?_; simp (maxSteps := 2000000) -implicitDefEqProofs +contextual (disch := first | assumption | omega | decide +kernel) only [push_cast, ↓capI, br2_true, br2_false, frk_tt, frk_tf, frk_f, frkD_tt, frkD_tf, frkD_f, pk2_true, pk2_false, imp_true, seval, Nat.reduceLeDiff, Nat.reduceEqDiff, reduceCtorEq, ↓reduceIte, cfg0, take_rest, ibeq_dec, V.rn, rns, qn, setPs, rnOs, Ob.rn, gl0, glV, List.map, V.st, List.set_cons_zero, List.size_toArray, Tryd.ntmps72]
  refine T.lp tok mixed cfg0 (fun (j : Nat) => kp 1 (sv (.int .u64 n) (dd 2 (sv (.int .i64 3) (dd 162 (nl)))))) (fun H0 (j : Nat) => [.cells 0 z24]) (fun (j : Nat) => j = 0) (fun (j : Nat) => 0) (0) ?_ ?_ ?_
  · rfl
  · unfold z24
    simp only [List.replicate]
    exact Gn.canon (J := []) (by first | rfl | (simp [List.append_nil]; done) | (simp [List.append_nil]; rfl)) (by simp [wk, putT, kp, dd, sv, nl]) (by simp [List.length_append]) (by simp [kp, dd, sv, nl]) (by simp )
  rintro j rfl
  unfold z24
  simp only [List.replicate]
  simp (maxSteps := 2000000) -implicitDefEqProofs +contextual (disch := first | assumption | omega | decide +kernel) only [push_cast, ↓capI, br2_true, br2_false, frk_tt, frk_tf, frk_f, frkD_tt, frkD_tf, frkD_f, pk2_true, pk2_false, imp_true, seval, Nat.reduceLeDiff, Nat.reduceEqDiff, reduceCtorEq, ↓reduceIte, cfg0, take_rest, ibeq_dec, V.rn, rns, qn, setPs, rnOs, Ob.rn, gl0, glV, List.map, V.st, List.set_cons_zero, List.size_toArray]
  have e1 : IntKind.u32.wrap (n : Int) = (n : Int) := u32_id (by omega)
  have e2 : ((n : Int)).tmod 100 = ((n % 100 : Nat) : Int) := by rw [Int.tmod_eq_emod_of_nonneg (by omega)]; omega
  have e3 : ((n : Int)).tdiv 100 = ((n / 100 : Nat) : Int) := by rw [Int.tdiv_eq_ediv_of_nonneg (by omega)]; omega
  have e4 : IntKind.u32.wrap (((n % 100 : Nat) : Int) * 2) = ((n % 100 * 2 : Nat) : Int) := by rw [u32_id (by omega)]; omega
  have e5 : IntKind.u32.wrap (((n % 100 * 2 : Nat) : Int) + 1) = ((n % 100 * 2 + 1 : Nat) : Int) := by rw [u32_id (by omega)]; omega
  have e6 : IntKind.u32.wrap ((n / 100 : Nat) : Int) = ((n / 100 : Nat) : Int) := u32_id (by omega)
  have e7 : IntKind.u32.wrap (48 + ((n / 100 : Nat) : Int)) = ((48 + n / 100 : Nat) : Int) := by rw [u32_id (by omega)]; omega
  have e8 : IntKind.u8.wrap (((48 + n / 100 : Nat) : Int)) = ((48 + n / 100 : Nat) : Int) := u8_id (by omega)
  have h5 : n % 100 < 100 := by omega
  have e9 : ((n % 100 * 2 + 1 : Nat) : Int).toNat = n % 100 * 2 + 1 := Int.toNat_natCast _
  have e10 : ((n % 100 * 2 : Nat) : Int).toNat = n % 100 * 2 := Int.toNat_natCast _
  have f1 : (0 : Int) ≤ ((n % 100 * 2 + 1 : Nat) : Int) ∧ ((n % 100 * 2 + 1 : Nat) : Int) < ((200 : Nat) : Int) := by omega
  have f2 : (0 : Int) ≤ ((n % 100 * 2 : Nat) : Int) ∧ ((n % 100 * 2 : Nat) : Int) < ((200 : Nat) : Int) := by omega
  simp only [e1, e2, e3, e4, e5, e6, e7, e8, e9, e10, bigL, bigA _ h5, bigB _ h5, f1, f2, true_and, true_imp_iff, and_self]
  have e11 : n % 100 / 10 = n / 10 % 10 := by omega
  have e12 : n % 100 % 10 = n % 10 := by omega
  rw [e11, e12]
  unfold buf3
  refine endG.normal ([]) (by first | rfl | simp [fzs_ok, getO, setO, fzs, fz, fzH, Nat.beq, tt_3, tt_4, tt_5, tt_9, tt_91, tt_112, tt_115, tt_117, tt_133, tt_111, tt_124, tt_2, tt_93, tt_99, tt_123, tt_124, cfg0, take_rest, ibeq_dec, V.rn, rns, qn, setPs, rnOs, Ob.rn, gl0, glV, List.map, V.st, List.set_cons_zero, List.size_toArray, List.replicate]) (by simp) (by simp [fzs_ok, imp, lenOK_iff, List.take_of_length_le, evRes, getT, getO, setO, fzs, fz, fzH, Nat.beq, retV, Res.then, ldT, ldR, mkV, getV, tt_3, tt_4, tt_5, tt_9, tt_91, tt_112, tt_115, tt_117, tt_133, tt_111, tt_124, tt_2, tt_93, tt_99, tt_123, tt_124, cfg0, take_rest, ibeq_dec, V.rn, rns, qn, setPs, rnOs, Ob.rn, gl0, glV, List.map, V.st, List.set_cons_zero, List.size_toArray, Tryd.f72, List.replicate]) (by first | rfl | simp [List.replicate]) (by first | rfl | simp [List.replicate])
theorem pc65 (n : Nat) (hn : n < 256) : PC Tryd.prog 65 [.int .i64 n, .int .i64 10] (.str (dec8 n)) := by
  refine PC.walk tok mixed cfg0 Tryd.func65 rfl Tryd.call65 (by simp ) (by first | rfl | simp ) ?_; simp (maxSteps := 2000000) -implicitDefEqProofs +contextual (disch := first | assumption | omega | decide +kernel) only [push_cast, ↓capI, br2_true, br2_false, frk_tt, frk_tf, frk_f, frkD_tt, frkD_tf, frkD_f, pk2_true, pk2_false, imp_true, seval, Nat.reduceLeDiff, Nat.reduceEqDiff, reduceCtorEq, ↓reduceIte, cfg0, take_rest, ibeq_dec, V.rn, rns, qn, setPs, rnOs, Ob.rn, gl0, glV, List.map, V.st, List.set_cons_zero, List.size_toArray, Tryd.ntmps65]
  refine ⟨fun h => ?_, fun h => ?_⟩
  · refine callO.pc (pc70 n (by omega)) ?_
    simp (maxSteps := 2000000) -implicitDefEqProofs +contextual (disch := first | assumption | omega | decide +kernel) only [push_cast, ↓capI, br2_true, br2_false, frk_tt, frk_tf, frk_f, frkD_tt, frkD_tf, frkD_f, pk2_true, pk2_false, imp_true, seval, Nat.reduceLeDiff, Nat.reduceEqDiff, reduceCtorEq, ↓reduceIte, cfg0, take_rest, ibeq_dec, V.rn, rns, qn, setPs, rnOs, Ob.rn, gl0, glV, List.map, V.st, List.set_cons_zero, List.size_toArray]
    refine endK.ret ?_ (by first | rfl | simp ); simp [evRes, getT, retV, Tryd.f65]
  have hr : 100 ≤ n ∧ n < 256 := by omega
  have hi : ¬ (n : Int) < 0 := by omega
  refine callO.pc (pc71 n hr) ?_
  simp (maxSteps := 2000000) -implicitDefEqProofs +contextual (disch := first | assumption | omega | decide +kernel) only [push_cast, ↓capI, br2_true, br2_false, frk_tt, frk_tf, frk_f, frkD_tt, frkD_tf, frkD_f, pk2_true, pk2_false, imp_true, seval, Nat.reduceLeDiff, Nat.reduceEqDiff, reduceCtorEq, ↓reduceIte, cfg0, take_rest, ibeq_dec, V.rn, rns, qn, setPs, rnOs, Ob.rn, gl0, glV, List.map, V.st, List.set_cons_zero, List.size_toArray, hi]
  refine callO.part0 [0] (g80 n hr) (by decide) rfl rfl ⟨by rfl, by simp, trivial⟩ ?_
  unfold buf3
  simp only [List.replicate, List.append_eq, List.cons_append, List.nil_append]
  simp (maxSteps := 2000000) -implicitDefEqProofs +contextual (disch := first | assumption | omega | decide +kernel) only [push_cast, ↓capI, br2_true, br2_false, frk_tt, frk_tf, frk_f, frkD_tt, frkD_tf, frkD_f, pk2_true, pk2_false, imp_true, seval, Nat.reduceLeDiff, Nat.reduceEqDiff, reduceCtorEq, ↓reduceIte, cfg0, take_rest, ibeq_dec, V.rn, rns, qn, setPs, rnOs, Ob.rn, gl0, glV, List.map, V.st, List.set_cons_zero, List.size_toArray, hi]
  have t1 : ((48 : Int) + (n : Int) / 100).toNat = 48 + n / 100 := by omega
  have t2 : ((48 : Int) + (n : Int) / 10 % 10).toNat = 48 + n / 10 % 10 := by omega
  have t3 : ((48 : Int) + (n : Int) % 10).toNat = 48 + n % 10 := by omega
  have h1 : ¬ n < 10 := by omega
  have h2 : ¬ n < 100 := by omega
  refine endK.ret ?_ (by first | rfl | simp ); simp [evRes, getT, retV, Tryd.f65,  dec8, h1, h2, if_false, t1, t2, t3]
theorem pc61 (n : Nat) (hn : n < 256) : PC Tryd.prog 61 [.int .i64 n] (.str (dec8 n)) := by
  refine PC.walk tok mixed cfg0 Tryd.func61 rfl Tryd.call61 (by simp ) (by first | rfl | simp ) ?_; simp (maxSteps := 2000000) -implicitDefEqProofs +contextual (disch := first | assumption | omega | decide +kernel) only [push_cast, ↓capI, br2_true, br2_false, frk_tt, frk_tf, frk_f, frkD_tt, frkD_tf, frkD_f, pk2_true, pk2_false, imp_true, seval, Nat.reduceLeDiff, Nat.reduceEqDiff, reduceCtorEq, ↓reduceIte, cfg0, take_rest, ibeq_dec, V.rn, rns, qn, setPs, rnOs, Ob.rn, gl0, glV, List.map, V.st, List.set_cons_zero, List.size_toArray, Tryd.ntmps61]
  refine callO.pc (pc65 n hn) ?_
  simp (maxSteps := 2000000) -implicitDefEqProofs +contextual (disch := first | assumption | omega | decide +kernel) only [push_cast, ↓capI, br2_true, br2_false, frk_tt, frk_tf, frk_f, frkD_tt, frkD_tf, frkD_f, pk2_true, pk2_false, imp_true, seval, Nat.reduceLeDiff, Nat.reduceEqDiff, reduceCtorEq, ↓reduceIte, cfg0, take_rest, ibeq_dec, V.rn, rns, qn, setPs, rnOs, Ob.rn, gl0, glV, List.map, V.st, List.set_cons_zero, List.size_toArray]
  refine endK.ret ?_ (by first | rfl | simp ); simp [evRes, getT, retV, Tryd.f61]
theorem pc56 (n : Nat) (hn : n < 256) : PC Tryd.prog 56 [.int .i64 n] (.str (dec8 n)) := by
  refine PC.walk tok mixed cfg0 Tryd.func56 rfl Tryd.call56 (by simp ) (by first | rfl | simp ) ?_; simp (maxSteps := 2000000) -implicitDefEqProofs +contextual (disch := first | assumption | omega | decide +kernel) only [push_cast, ↓capI, br2_true, br2_false, frk_tt, frk_tf, frk_f, frkD_tt, frkD_tf, frkD_f, pk2_true, pk2_false, imp_true, seval, Nat.reduceLeDiff, Nat.reduceEqDiff, reduceCtorEq, ↓reduceIte, cfg0, take_rest, ibeq_dec, V.rn, rns, qn, setPs, rnOs, Ob.rn, gl0, glV, List.map, V.st, List.set_cons_zero, List.size_toArray, Tryd.ntmps56]
  refine callO.pc (pc61 n hn) ?_
  simp (maxSteps := 2000000) -implicitDefEqProofs +contextual (disch := first | assumption | omega | decide +kernel) only [push_cast, ↓capI, br2_true, br2_false, frk_tt, frk_tf, frk_f, frkD_tt, frkD_tf, frkD_f, pk2_true, pk2_false, imp_true, seval, Nat.reduceLeDiff, Nat.reduceEqDiff, reduceCtorEq, ↓reduceIte, cfg0, take_rest, ibeq_dec, V.rn, rns, qn, setPs, rnOs, Ob.rn, gl0, glV, List.map, V.st, List.set_cons_zero, List.size_toArray]
  refine endK.ret ?_ (by first | rfl | simp ); simp [evRes, getT, retV, Tryd.f56]
theorem pc46 (n : Nat) (hn : n < 256) : PC Tryd.prog 46 [.int .i64 n] (.str (dec8 n)) := by
  refine PC.walk tok mixed cfg0 Tryd.func46 rfl Tryd.call46 (by simp ) (by first | rfl | simp ) ?_; simp (maxSteps := 2000000) -implicitDefEqProofs +contextual (disch := first | assumption | omega | decide +kernel) only [push_cast, ↓capI, br2_true, br2_false, frk_tt, frk_tf, frk_f, frkD_tt, frkD_tf, frkD_f, pk2_true, pk2_false, imp_true, seval, Nat.reduceLeDiff, Nat.reduceEqDiff, reduceCtorEq, ↓reduceIte, cfg0, take_rest, ibeq_dec, V.rn, rns, qn, setPs, rnOs, Ob.rn, gl0, glV, List.map, V.st, List.set_cons_zero, List.size_toArray, Tryd.ntmps46]
  refine callO.pc (pc56 n hn) ?_
  simp (maxSteps := 2000000) -implicitDefEqProofs +contextual (disch := first | assumption | omega | decide +kernel) only [push_cast, ↓capI, br2_true, br2_false, frk_tt, frk_tf, frk_f, frkD_tt, frkD_tf, frkD_f, pk2_true, pk2_false, imp_true, seval, Nat.reduceLeDiff, Nat.reduceEqDiff, reduceCtorEq, ↓reduceIte, cfg0, take_rest, ibeq_dec, V.rn, rns, qn, setPs, rnOs, Ob.rn, gl0, glV, List.map, V.st, List.set_cons_zero, List.size_toArray]
  refine endK.ret ?_ (by first | rfl | simp ); simp [evRes, getT, retV, Tryd.f46]
theorem pc60a (n : Nat) (hn : n < 10) : PC Tryd.prog 57 [.int .u64 n] (.str (dec8 n)) := by
  have hn2 : (n : Int) < 10 := by omega
  refine PC.walk tok mixed cfg0 Tryd.func57 rfl Tryd.call57 (by simp ) (by first | rfl | simp ) ?_; simp (maxSteps := 2000000) -implicitDefEqProofs +contextual (disch := first | assumption | omega | decide +kernel) only [push_cast, ↓capI, br2_true, br2_false, frk_tt, frk_tf, frk_f, frkD_tt, frkD_tf, frkD_f, pk2_true, pk2_false, imp_true, seval, Nat.reduceLeDiff, Nat.reduceEqDiff, reduceCtorEq, ↓reduceIte, cfg0, take_rest, ibeq_dec, V.rn, rns, qn, setPs, rnOs, Ob.rn, gl0, glV, List.map, V.st, List.set_cons_zero, List.size_toArray, Tryd.ntmps57]
  have t1 : ((48 : Int) + (n : Int)).toNat = 48 + n := by omega
  refine endK.ret ?_ (by first | rfl | simp ); simp [evRes, getT, retV, Tryd.f57,  dec8, hn, t1]
theorem dec8_len (n : Nat) : (dec8 n).length ≤ 3 := by
  unfold dec8
  split
  · simp
  split <;> simp
theorem dec8_app (n : Nat) (h : 10 ≤ n) (hn : n < 256) : dec8 (n / 10) ++ dec8 (n % 10) = dec8 n := by
  rw [dec8, dec8, dec8, if_pos (by omega : n % 10 < 10), if_neg (by omega : ¬ n < 10)]
  split
  · rw [if_pos (by omega)]
    rfl
  · rw [if_pos (by omega : n / 10 < 100), if_neg (by omega : ¬ n < 100), Nat.div_div_eq_div_mul]
    rfl
theorem pc60s (n : Nat) (h10 : 10 ≤ n) (hn : n < 256) (h : PC Tryd.prog 57 [.int .u64 (n / 10 : Nat)] (.str (dec8 (n / 10)))) : PC Tryd.prog 57 [.int .u64 n] (.str (dec8 n)) := by
  have hn2 : ¬ (n : Int) < 10 := by omega
  have e1 : IntKind.u64.wrap ((n : Int).tdiv 10) = ((n / 10 : Nat) : Int) := by
    rw [Int.tdiv_eq_ediv_of_nonneg (by omega)]
    exact IntWalk.u64_in _ ⟨by omega, by omega⟩
  have e2 : (n : Int).tmod 10 = ((n % 10 : Nat) : Int) := by rw [Int.tmod_eq_emod_of_nonneg (by omega)]; omega
  refine PC.walk tok mixed cfg0 Tryd.func57 rfl Tryd.call57 (by simp ) (by first | rfl | simp ) ?_; simp (maxSteps := 2000000) -implicitDefEqProofs +contextual (disch := first | assumption | omega | decide +kernel) only [push_cast, ↓capI, br2_true, br2_false, frk_tt, frk_tf, frk_f, frkD_tt, frkD_tf, frkD_f, pk2_true, pk2_false, imp_true, seval, Nat.reduceLeDiff, Nat.reduceEqDiff, reduceCtorEq, ↓reduceIte, cfg0, take_rest, ibeq_dec, V.rn, rns, qn, setPs, rnOs, Ob.rn, gl0, glV, List.map, V.st, List.set_cons_zero, List.size_toArray, Tryd.ntmps57]
  rw [e1]
  refine callO.pc h ?_
  simp (maxSteps := 2000000) -implicitDefEqProofs +contextual (disch := first | assumption | omega | decide +kernel) only [push_cast, ↓capI, br2_true, br2_false, frk_tt, frk_tf, frk_f, frkD_tt, frkD_tf, frkD_f, pk2_true, pk2_false, imp_true, seval, Nat.reduceLeDiff, Nat.reduceEqDiff, reduceCtorEq, ↓reduceIte, cfg0, take_rest, ibeq_dec, V.rn, rns, qn, setPs, rnOs, Ob.rn, gl0, glV, List.map, V.st, List.set_cons_zero, List.size_toArray, e2]
  refine callO.pc (pc60a (n % 10) (by omega)) ?_
  simp (maxSteps := 2000000) -implicitDefEqProofs +contextual (disch := first | assumption | omega | decide +kernel) only [push_cast, ↓capI, br2_true, br2_false, frk_tt, frk_tf, frk_f, frkD_tt, frkD_tf, frkD_f, pk2_true, pk2_false, imp_true, seval, Nat.reduceLeDiff, Nat.reduceEqDiff, reduceCtorEq, ↓reduceIte, cfg0, take_rest, ibeq_dec, V.rn, rns, qn, setPs, rnOs, Ob.rn, gl0, glV, List.map, V.st, List.set_cons_zero, List.size_toArray]
  refine ⟨by have := dec8_len (n / 10); have := dec8_len (n % 10); omega, fun _ => ?_⟩
  refine endK.ret ?_ (by first | rfl | simp ); simp [evRes, getT, retV, Tryd.f57,  dec8_app n h10 hn]
theorem pc57 (n : Nat) (hn : n < 256) : PC Tryd.prog 57 [.int .u64 n] (.str (dec8 n)) := by
  by_cases h : n < 10
  · exact pc60a n h
  refine pc60s n (by omega) hn ?_
  by_cases h2 : n / 10 < 10
  · exact pc60a _ h2
  exact pc60s _ (by omega) (by omega) (pc60a _ (by omega))
theorem pc47 (n : Nat) (hn : n < 256) : PC Tryd.prog 47 [.int .i64 n] (.str (dec8 n)) := by
  refine PC.walk tok mixed cfg0 Tryd.func47 rfl Tryd.call47 (by simp ) (by first | rfl | simp ) ?_; simp (maxSteps := 2000000) -implicitDefEqProofs +contextual (disch := first | assumption | omega | decide +kernel) only [push_cast, ↓capI, br2_true, br2_false, frk_tt, frk_tf, frk_f, frkD_tt, frkD_tf, frkD_f, pk2_true, pk2_false, imp_true, seval, Nat.reduceLeDiff, Nat.reduceEqDiff, reduceCtorEq, ↓reduceIte, cfg0, take_rest, ibeq_dec, V.rn, rns, qn, setPs, rnOs, Ob.rn, gl0, glV, List.map, V.st, List.set_cons_zero, List.size_toArray, Tryd.ntmps47]
  refine callO.pc (pc57 n hn) ?_
  simp (maxSteps := 2000000) -implicitDefEqProofs +contextual (disch := first | assumption | omega | decide +kernel) only [push_cast, ↓capI, br2_true, br2_false, frk_tt, frk_tf, frk_f, frkD_tt, frkD_tf, frkD_f, pk2_true, pk2_false, imp_true, seval, Nat.reduceLeDiff, Nat.reduceEqDiff, reduceCtorEq, ↓reduceIte, cfg0, take_rest, ibeq_dec, V.rn, rns, qn, setPs, rnOs, Ob.rn, gl0, glV, List.map, V.st, List.set_cons_zero, List.size_toArray]
  refine endK.ret ?_ (by first | rfl | simp ); simp [evRes, getT, retV, Tryd.f47]
end Go.Proofs.YtginpkchjeooeaaDoor

/- Integers of up to nine digits, written by the program. -/
set_option maxRecDepth 100000
set_option maxHeartbeats 4000000
set_option linter.all false
namespace Go.Proofs.YtginpkchjeooeaaDoor
open Go.Vm

/-- the decimal digits of a number, for k digits at most -/
def dgs : Nat → Nat → List UInt8
  | 0, _ => []
  | k + 1, n => if n < 10 then [UInt8.ofNat (48 + n)] else dgs k (n / 10) ++ [UInt8.ofNat (48 + n % 10)]
theorem dgs_len : ∀ k n, (dgs k n).length ≤ k
  | 0, _ => Nat.le_refl _
  | k + 1, n => by
    rw [dgs]
    split
    · simp
    · have := dgs_len k (n / 10)
      rw [List.length_append, List.length_singleton]
      omega
theorem len64_of {n x : Nat} (h1 : 2 ^ x ≤ n) (h2 : n < 2 ^ (x + 1)) : len64 n = x + 1 := by
  have hn : n ≠ 0 := by
    intro e
    have := Nat.two_pow_pos x
    omega
  have a1 : x ≤ n.log2 := (Nat.le_log2 hn).2 h1
  have a2 : n.log2 < x + 1 := (Nat.log2_lt hn).2 h2
  unfold len64
  rw [if_neg hn]
  omega
theorem pow2_log (x : Nat) (hx : x ≤ 64) : PC Tryd.prog 84 [.int .i64 x] (.int .i64 ((x * 78913 / 262144 : Nat) : Int)) := by
  have key : ∀ y : Fin 65, ishr .i64 ((y.val : Int) * 78913) 18 = ((y.val * 78913 / 262144 : Nat) : Int) := by decide +kernel
  have h := key ⟨x, by omega⟩
  simp only at h
  generalize x * 78913 / 262144 = t at h
  refine PC.walk tok mixed cfg0 Tryd.func84 rfl Tryd.call84 (by simp ) (by first | rfl | simp ) ?_; simp (maxSteps := 2000000) -implicitDefEqProofs +contextual (disch := first | assumption | omega | decide +kernel) only [push_cast, ↓capI, br2_true, br2_false, frk_tt, frk_tf, frk_f, frkD_tt, frkD_tf, frkD_f, pk2_true, pk2_false, imp_true, seval, Nat.reduceLeDiff, Nat.reduceEqDiff, reduceCtorEq, ↓reduceIte, cfg0, take_rest, ibeq_dec, V.rn, rns, qn, setPs, rnOs, Ob.rn, gl0, glV, List.map, V.st, List.set_cons_zero, List.size_toArray, Tryd.ntmps84]
  refine endK.ret ?_ (by first | rfl | simp ); simp [evRes, getT, retV, Tryd.f84,  h]
theorem nd2 (n : Nat) (hn : n < 2 ^ 64) (h64 : len64 n ≤ 64) (ht : len64 n * 78913 / 262144 = 2) : PC Tryd.prog 71 [.int .u64 n] (.int .i64 (2 + if 100 ≤ n then 1 else 0)) := by
  have hl := pc85 n hn
  have h85 := pow2_log (len64 n) h64
  rw [ht] at h85
  have h86 := pc86 (decide (100 ≤ n))
  have hd : decide ((100 : Int) ≤ (n : Int)) = decide (100 ≤ n) := by rw [decide_eq_decide]; omega
  have hle : (0 : Int) ≤ (if (decide (100 ≤ n)) = true then 1 else 0) ∧ (if (decide (100 ≤ n)) = true then (1 : Int) else 0) ≤ 1 := by split <;> decide
  have he : (if (decide (100 ≤ n)) = true then (1 : Int) else 0) = if 100 ≤ n then 1 else 0 := by simp
  rw [← he]
  generalize (if (decide (100 ≤ n)) = true then (1 : Int) else 0) = z at h86 hle
  generalize decide (100 ≤ n) = b at h86 hd
  refine PC.walk tok mixed cfg0 Tryd.func71 rfl Tryd.call71 (by simp ) (by first | rfl | simp ) ?_; simp (maxSteps := 2000000) -implicitDefEqProofs +contextual (disch := first | assumption | omega | decide +kernel) only [push_cast, ↓capI, br2_true, br2_false, frk_tt, frk_tf, frk_f, frkD_tt, frkD_tf, frkD_f, pk2_true, pk2_false, imp_true, seval, Nat.reduceLeDiff, Nat.reduceEqDiff, reduceCtorEq, ↓reduceIte, cfg0, take_rest, ibeq_dec, V.rn, rns, qn, setPs, rnOs, Ob.rn, gl0, glV, List.map, V.st, List.set_cons_zero, List.size_toArray, Tryd.ntmps71]
  refine callO.pc hl ?_
  simp (maxSteps := 2000000) -implicitDefEqProofs +contextual (disch := first | assumption | omega | decide +kernel) only [push_cast, ↓capI, br2_true, br2_false, frk_tt, frk_tf, frk_f, frkD_tt, frkD_tf, frkD_f, pk2_true, pk2_false, imp_true, seval, Nat.reduceLeDiff, Nat.reduceEqDiff, reduceCtorEq, ↓reduceIte, cfg0, take_rest, ibeq_dec, V.rn, rns, qn, setPs, rnOs, Ob.rn, gl0, glV, List.map, V.st, List.set_cons_zero, List.size_toArray]
  refine callO.pc h85 ?_
  simp (maxSteps := 2000000) -implicitDefEqProofs +contextual (disch := first | assumption | omega | decide +kernel) only [push_cast, ↓capI, br2_true, br2_false, frk_tt, frk_tf, frk_f, frkD_tt, frkD_tf, frkD_f, pk2_true, pk2_false, imp_true, seval, Nat.reduceLeDiff, Nat.reduceEqDiff, reduceCtorEq, ↓reduceIte, cfg0, take_rest, ibeq_dec, V.rn, rns, qn, setPs, rnOs, Ob.rn, gl0, glV, List.map, V.st, List.set_cons_zero, List.size_toArray, hd]
  refine callO.pc h86 ?_
  simp (maxSteps := 2000000) -implicitDefEqProofs +contextual (disch := first | assumption | omega | decide +kernel) only [push_cast, ↓capI, br2_true, br2_false, frk_tt, frk_tf, frk_f, frkD_tt, frkD_tf, frkD_f, pk2_true, pk2_false, imp_true, seval, Nat.reduceLeDiff, Nat.reduceEqDiff, reduceCtorEq, ↓reduceIte, cfg0, take_rest, ibeq_dec, V.rn, rns, qn, setPs, rnOs, Ob.rn, gl0, glV, List.map, V.st, List.set_cons_zero, List.size_toArray]
  refine endK.ret ?_ (by first | rfl | simp ); simp [evRes, getT, retV, Tryd.f71]
theorem nd3 (n : Nat) (hn : n < 2 ^ 64) (h64 : len64 n ≤ 64) (ht : len64 n * 78913 / 262144 = 3) : PC Tryd.prog 71 [.int .u64 n] (.int .i64 (3 + if 1000 ≤ n then 1 else 0)) := by
  have hl := pc85 n hn
  have h85 := pow2_log (len64 n) h64
  rw [ht] at h85
  have h86 := pc86 (decide (1000 ≤ n))
  have hd : decide ((1000 : Int) ≤ (n : Int)) = decide (1000 ≤ n) := by rw [decide_eq_decide]; omega
  have hle : (0 : Int) ≤ (if (decide (1000 ≤ n)) = true then 1 else 0) ∧ (if (decide (1000 ≤ n)) = true then (1 : Int) else 0) ≤ 1 := by split <;> decide
  have he : (if (decide (1000 ≤ n)) = true then (1 : Int) else 0) = if 1000 ≤ n then 1 else 0 := by simp
  rw [← he]
  generalize (if (decide (1000 ≤ n)) = true then (1 : Int) else 0) = z at h86 hle
  generalize decide (1000 ≤ n) = b at h86 hd
  refine PC.walk tok mixed cfg0 Tryd.func71 rfl Tryd.call71 (by simp ) (by first | rfl | simp ) ?_; simp (maxSteps := 2000000) -implicitDefEqProofs +contextual (disch := first | assumption | omega | decide +kernel) only [push_cast, ↓capI, br2_true, br2_false, frk_tt, frk_tf, frk_f, frkD_tt, frkD_tf, frkD_f, pk2_true, pk2_false, imp_true, seval, Nat.reduceLeDiff, Nat.reduceEqDiff, reduceCtorEq, ↓reduceIte, cfg0, take_rest, ibeq_dec, V.rn, rns, qn, setPs, rnOs, Ob.rn, gl0, glV, List.map, V.st, List.set_cons_zero, List.size_toArray, Tryd.ntmps71]
  refine callO.pc hl ?_
  simp (maxSteps := 2000000) -implicitDefEqProofs +contextual (disch := first | assumption | omega | decide +kernel) only [push_cast, ↓capI, br2_true, br2_false, frk_tt, frk_tf, frk_f, frkD_tt, frkD_tf, frkD_f, pk2_true, pk2_false, imp_true, seval, Nat.reduceLeDiff, Nat.reduceEqDiff, reduceCtorEq, ↓reduceIte, cfg0, take_rest, ibeq_dec, V.rn, rns, qn, setPs, rnOs, Ob.rn, gl0, glV, List.map, V.st, List.set_cons_zero, List.size_toArray]
  refine callO.pc h85 ?_
  simp (maxSteps := 2000000) -implicitDefEqProofs +contextual (disch := first | assumption | omega | decide +kernel) only [push_cast, ↓capI, br2_true, br2_false, frk_tt, frk_tf, frk_f, frkD_tt, frkD_tf, frkD_f, pk2_true, pk2_false, imp_true, seval, Nat.reduceLeDiff, Nat.reduceEqDiff, reduceCtorEq, ↓reduceIte, cfg0, take_rest, ibeq_dec, V.rn, rns, qn, setPs, rnOs, Ob.rn, gl0, glV, List.map, V.st, List.set_cons_zero, List.size_toArray, hd]
  refine callO.pc h86 ?_
  simp (maxSteps := 2000000) -implicitDefEqProofs +contextual (disch := first | assumption | omega | decide +kernel) only [push_cast, ↓capI, br2_true, br2_false, frk_tt, frk_tf, frk_f, frkD_tt, frkD_tf, frkD_f, pk2_true, pk2_false, imp_true, seval, Nat.reduceLeDiff, Nat.reduceEqDiff, reduceCtorEq, ↓reduceIte, cfg0, take_rest, ibeq_dec, V.rn, rns, qn, setPs, rnOs, Ob.rn, gl0, glV, List.map, V.st, List.set_cons_zero, List.size_toArray]
  refine endK.ret ?_ (by first | rfl | simp ); simp [evRes, getT, retV, Tryd.f71]
theorem nd4 (n : Nat) (hn : n < 2 ^ 64) (h64 : len64 n ≤ 64) (ht : len64 n * 78913 / 262144 = 4) : PC Tryd.prog 71 [.int .u64 n] (.int .i64 (4 + if 10000 ≤ n then 1 else 0)) := by
  have hl := pc85 n hn
  have h85 := pow2_log (len64 n) h64
  rw [ht] at h85
  have h86 := pc86 (decide (10000 ≤ n))
  have hd : decide ((10000 : Int) ≤ (n : Int)) = decide (10000 ≤ n) := by rw [decide_eq_decide]; omega
  have hle : (0 : Int) ≤ (if (decide (10000 ≤ n)) = true then 1 else 0) ∧ (if (decide (10000 ≤ n)) = true then (1 : Int) else 0) ≤ 1 := by split <;> decide
  have he : (if (decide (10000 ≤ n)) = true then (1 : Int) else 0) = if 10000 ≤ n then 1 else 0 := by simp
  rw [← he]
  generalize (if (decide (10000 ≤ n)) = true then (1 : Int) else 0) = z at h86 hle
  generalize decide (10000 ≤ n) = b at h86 hd
  refine PC.walk tok mixed cfg0 Tryd.func71 rfl Tryd.call71 (by simp ) (by first | rfl | simp ) ?_; simp (maxSteps := 2000000) -implicitDefEqProofs +contextual (disch := first | assumption | omega | decide +kernel) only [push_cast, ↓capI, br2_true, br2_false, frk_tt, frk_tf, frk_f, frkD_tt, frkD_tf, frkD_f, pk2_true, pk2_false, imp_true, seval, Nat.reduceLeDiff, Nat.reduceEqDiff, reduceCtorEq, ↓reduceIte, cfg0, take_rest, ibeq_dec, V.rn, rns, qn, setPs, rnOs, Ob.rn, gl0, glV, List.map, V.st, List.set_cons_zero, List.size_toArray, Tryd.ntmps71]
  refine callO.pc hl ?_
  simp (maxSteps := 2000000) -implicitDefEqProofs +contextual (disch := first | assumption | omega | decide +kernel) only [push_cast, ↓capI, br2_true, br2_false, frk_tt, frk_tf, frk_f, frkD_tt, frkD_tf, frkD_f, pk2_true, pk2_false, imp_true, seval, Nat.reduceLeDiff, Nat.reduceEqDiff, reduceCtorEq, ↓reduceIte, cfg0, take_rest, ibeq_dec, V.rn, rns, qn, setPs, rnOs, Ob.rn, gl0, glV, List.map, V.st, List.set_cons_zero, List.size_toArray]
  refine callO.pc h85 ?_
  simp (maxSteps := 2000000) -implicitDefEqProofs +contextual (disch := first | assumption | omega | decide +kernel) only [push_cast, ↓capI, br2_true, br2_false, frk_tt, frk_tf, frk_f, frkD_tt, frkD_tf, frkD_f, pk2_true, pk2_false, imp_true, seval, Nat.reduceLeDiff, Nat.reduceEqDiff, reduceCtorEq, ↓reduceIte, cfg0, take_rest, ibeq_dec, V.rn, rns, qn, setPs, rnOs, Ob.rn, gl0, glV, List.map, V.st, List.set_cons_zero, List.size_toArray, hd]
  refine callO.pc h86 ?_
  simp (maxSteps := 2000000) -implicitDefEqProofs +contextual (disch := first | assumption | omega | decide +kernel) only [push_cast, ↓capI, br2_true, br2_false, frk_tt, frk_tf, frk_f, frkD_tt, frkD_tf, frkD_f, pk2_true, pk2_false, imp_true, seval, Nat.reduceLeDiff, Nat.reduceEqDiff, reduceCtorEq, ↓reduceIte, cfg0, take_rest, ibeq_dec, V.rn, rns, qn, setPs, rnOs, Ob.rn, gl0, glV, List.map, V.st, List.set_cons_zero, List.size_toArray]
  refine endK.ret ?_ (by first | rfl | simp ); simp [evRes, getT, retV, Tryd.f71]
theorem nd5 (n : Nat) (hn : n < 2 ^ 64) (h64 : len64 n ≤ 64) (ht : len64 n * 78913 / 262144 = 5) : PC Tryd.prog 71 [.int .u64 n] (.int .i64 (5 + if 100000 ≤ n then 1 else 0)) := by
  have hl := pc85 n hn
  have h85 := pow2_log (len64 n) h64
  rw [ht] at h85
  have h86 := pc86 (decide (100000 ≤ n))
  have hd : decide ((100000 : Int) ≤ (n : Int)) = decide (100000 ≤ n) := by rw [decide_eq_decide]; omega
  have hle : (0 : Int) ≤ (if (decide (100000 ≤ n)) = true then 1 else 0) ∧ (if (decide (100000 ≤ n)) = true then (1 : Int) else 0) ≤ 1 := by split <;> decide
  have he : (if (decide (100000 ≤ n)) = true then (1 : Int) else 0) = if 100000 ≤ n then 1 else 0 := by simp
  rw [← he]
  generalize (if (decide (100000 ≤ n)) = true then (1 : Int) else 0) = z at h86 hle
  generalize decide (100000 ≤ n) = b at h86 hd
  refine PC.walk tok mixed cfg0 Tryd.func71 rfl Tryd.call71 (by simp ) (by first | rfl | simp ) ?_; simp (maxSteps := 2000000) -implicitDefEqProofs +contextual (disch := first | assumption | omega | decide +kernel) only [push_cast, ↓capI, br2_true, br2_false, frk_tt, frk_tf, frk_f, frkD_tt, frkD_tf, frkD_f, pk2_true, pk2_false, imp_true, seval, Nat.reduceLeDiff, Nat.reduceEqDiff, reduceCtorEq, ↓reduceIte, cfg0, take_rest, ibeq_dec, V.rn, rns, qn, setPs, rnOs, Ob.rn, gl0, glV, List.map, V.st, List.set_cons_zero, List.size_toArray, Tryd.ntmps71]
  refine callO.pc hl ?_
  simp (maxSteps := 2000000) -implicitDefEqProofs +contextual (disch := first | assumption | omega | decide +kernel) only [push_cast, ↓capI, br2_true, br2_false, frk_tt, frk_tf, frk_f, frkD_tt, frkD_tf, frkD_f, pk2_true, pk2_false, imp_true, seval, Nat.reduceLeDiff, Nat.reduceEqDiff, reduceCtorEq, ↓reduceIte, cfg0, take_rest, ibeq_dec, V.rn, rns, qn, setPs, rnOs, Ob.rn, gl0, glV, List.map, V.st, List.set_cons_zero, List.size_toArray]
  refine callO.pc h85 ?_
  simp (maxSteps := 2000000) -implicitDefEqProofs +contextual (disch := first | assumption | omega | decide +kernel) only [push_cast, ↓capI, br2_true, br2_false, frk_tt, frk_tf, frk_f, frkD_tt, frkD_tf, frkD_f, pk2_true, pk2_false, imp_true, seval, Nat.reduceLeDiff, Nat.reduceEqDiff, reduceCtorEq, ↓reduceIte, cfg0, take_rest, ibeq_dec, V.rn, rns, qn, setPs, rnOs, Ob.rn, gl0, glV, List.map, V.st, List.set_cons_zero, List.size_toArray, hd]
  refine callO.pc h86 ?_
  simp (maxSteps := 2000000) -implicitDefEqProofs +contextual (disch := first | assumption | omega | decide +kernel) only [push_cast, ↓capI, br2_true, br2_false, frk_tt, frk_tf, frk_f, frkD_tt, frkD_tf, frkD_f, pk2_true, pk2_false, imp_true, seval, Nat.reduceLeDiff, Nat.reduceEqDiff, reduceCtorEq, ↓reduceIte, cfg0, take_rest, ibeq_dec, V.rn, rns, qn, setPs, rnOs, Ob.rn, gl0, glV, List.map, V.st, List.set_cons_zero, List.size_toArray]
  refine endK.ret ?_ (by first | rfl | simp ); simp [evRes, getT, retV, Tryd.f71]
theorem nd6 (n : Nat) (hn : n < 2 ^ 64) (h64 : len64 n ≤ 64) (ht : len64 n * 78913 / 262144 = 6) : PC Tryd.prog 71 [.int .u64 n] (.int .i64 (6 + if 1000000 ≤ n then 1 else 0)) := by
  have hl := pc85 n hn
  have h85 := pow2_log (len64 n) h64
  rw [ht] at h85
  have h86 := pc86 (decide (1000000 ≤ n))
  have hd : decide ((1000000 : Int) ≤ (n : Int)) = decide (1000000 ≤ n) := by rw [decide_eq_decide]; omega
  have hle : (0 : Int) ≤ (if (decide (1000000 ≤ n)) = true then 1 else 0) ∧ (if (decide (1000000 ≤ n)) = true then (1 : Int) else 0) ≤ 1 := by split <;> decide
  have he : (if (decide (1000000 ≤ n)) = true then (1 : Int) else 0) = if 1000000 ≤ n then 1 else 0 := by simp
  rw [← he]
  generalize (if (decide (1000000 ≤ n)) = true then (1 : Int) else 0) = z at h86 hle
  generalize decide (1000000 ≤ n) = b at h86 hd
  refine PC.walk tok mixed cfg0 Tryd.func71 rfl Tryd.call71 (by simp ) (by first | rfl | simp ) ?_; simp (maxSteps := 2000000) -implicitDefEqProofs +contextual (disch := first | assumption | omega | decide +kernel) only [push_cast, ↓capI, br2_true, br2_false, frk_tt, frk_tf, frk_f, frkD_tt, frkD_tf, frkD_f, pk2_true, pk2_false, imp_true, seval, Nat.reduceLeDiff, Nat.reduceEqDiff, reduceCtorEq, ↓reduceIte, cfg0, take_rest, ibeq_dec, V.rn, rns, qn, setPs, rnOs, Ob.rn, gl0, glV, List.map, V.st, List.set_cons_zero, List.size_toArray, Tryd.ntmps71]
  refine callO.pc hl ?_
  simp (maxSteps := 2000000) -implicitDefEqProofs +contextual (disch := first | assumption | omega | decide +kernel) only [push_cast, ↓capI, br2_true, br2_false, frk_tt, frk_tf, frk_f, frkD_tt, frkD_tf, frkD_f, pk2_true, pk2_false, imp_true, seval, Nat.reduceLeDiff, Nat.reduceEqDiff, reduceCtorEq, ↓reduceIte, cfg0, take_rest, ibeq_dec, V.rn, rns, qn, setPs, rnOs, Ob.rn, gl0, glV, List.map, V.st, List.set_cons_zero, List.size_toArray]
  refine callO.pc h85 ?_
  simp (maxSteps := 2000000) -implicitDefEqProofs +contextual (disch := first | assumption | omega | decide +kernel) only [push_cast, ↓capI, br2_true, br2_false, frk_tt, frk_tf, frk_f, frkD_tt, frkD_tf, frkD_f, pk2_true, pk2_false, imp_true, seval, Nat.reduceLeDiff, Nat.reduceEqDiff, reduceCtorEq, ↓reduceIte, cfg0, take_rest, ibeq_dec, V.rn, rns, qn, setPs, rnOs, Ob.rn, gl0, glV, List.map, V.st, List.set_cons_zero, List.size_toArray, hd]
  refine callO.pc h86 ?_
  simp (maxSteps := 2000000) -implicitDefEqProofs +contextual (disch := first | assumption | omega | decide +kernel) only [push_cast, ↓capI, br2_true, br2_false, frk_tt, frk_tf, frk_f, frkD_tt, frkD_tf, frkD_f, pk2_true, pk2_false, imp_true, seval, Nat.reduceLeDiff, Nat.reduceEqDiff, reduceCtorEq, ↓reduceIte, cfg0, take_rest, ibeq_dec, V.rn, rns, qn, setPs, rnOs, Ob.rn, gl0, glV, List.map, V.st, List.set_cons_zero, List.size_toArray]
  refine endK.ret ?_ (by first | rfl | simp ); simp [evRes, getT, retV, Tryd.f71]
theorem nd7 (n : Nat) (hn : n < 2 ^ 64) (h64 : len64 n ≤ 64) (ht : len64 n * 78913 / 262144 = 7) : PC Tryd.prog 71 [.int .u64 n] (.int .i64 (7 + if 10000000 ≤ n then 1 else 0)) := by
  have hl := pc85 n hn
  have h85 := pow2_log (len64 n) h64
  rw [ht] at h85
  have h86 := pc86 (decide (10000000 ≤ n))
  have hd : decide ((10000000 : Int) ≤ (n : Int)) = decide (10000000 ≤ n) := by rw [decide_eq_decide]; omega
  have hle : (0 : Int) ≤ (if (decide (10000000 ≤ n)) = true then 1 else 0) ∧ (if (decide (10000000 ≤ n)) = true then (1 : Int) else 0) ≤ 1 := by split <;> decide
  have he : (if (decide (10000000 ≤ n)) = true then (1 : Int) else 0) = if 10000000 ≤ n then 1 else 0 := by simp
  rw [← he]
  generalize (if (decide (10000000 ≤ n)) = true then (1 : Int) else 0) = z at h86 hle
  generalize decide (10000000 ≤ n) = b at h86 hd
  refine PC.walk tok mixed cfg0 Tryd.func71 rfl Tryd.call71 (by simp ) (by first | rfl | simp ) ?_; simp (maxSteps := 2000000) -implicitDefEqProofs +contextual (disch := first | assumption | omega | decide +kernel) only [push_cast, ↓capI, br2_true, br2_false, frk_tt, frk_tf, frk_f, frkD_tt, frkD_tf, frkD_f, pk2_true, pk2_false, imp_true, seval, Nat.reduceLeDiff, Nat.reduceEqDiff, reduceCtorEq, ↓reduceIte, cfg0, take_rest, ibeq_dec, V.rn, rns, qn, setPs, rnOs, Ob.rn, gl0, glV, List.map, V.st, List.set_cons_zero, List.size_toArray, Tryd.ntmps71]
  refine callO.pc hl ?_
  simp (maxSteps := 2000000) -implicitDefEqProofs +contextual (disch := first | assumption | omega | decide +kernel) only [push_cast, ↓capI, br2_true, br2_false, frk_tt, frk_tf, frk_f, frkD_tt, frkD_tf, frkD_f, pk2_true, pk2_false, imp_true, seval, Nat.reduceLeDiff, Nat.reduceEqDiff, reduceCtorEq, ↓reduceIte, cfg0, take_rest, ibeq_dec, V.rn, rns, qn, setPs, rnOs, Ob.rn, gl0, glV, List.map, V.st, List.set_cons_zero, List.size_toArray]
  refine callO.pc h85 ?_
  simp (maxSteps := 2000000) -implicitDefEqProofs +contextual (disch := first | assumption | omega | decide +kernel) only [push_cast, ↓capI, br2_true, br2_false, frk_tt, frk_tf, frk_f, frkD_tt, frkD_tf, frkD_f, pk2_true, pk2_false, imp_true, seval, Nat.reduceLeDiff, Nat.reduceEqDiff, reduceCtorEq, ↓reduceIte, cfg0, take_rest, ibeq_dec, V.rn, rns, qn, setPs, rnOs, Ob.rn, gl0, glV, List.map, V.st, List.set_cons_zero, List.size_toArray, hd]
  refine callO.pc h86 ?_
  simp (maxSteps := 2000000) -implicitDefEqProofs +contextual (disch := first | assumption | omega | decide +kernel) only [push_cast, ↓capI, br2_true, br2_false, frk_tt, frk_tf, frk_f, frkD_tt, frkD_tf, frkD_f, pk2_true, pk2_false, imp_true, seval, Nat.reduceLeDiff, Nat.reduceEqDiff, reduceCtorEq, ↓reduceIte, cfg0, take_rest, ibeq_dec, V.rn, rns, qn, setPs, rnOs, Ob.rn, gl0, glV, List.map, V.st, List.set_cons_zero, List.size_toArray]
  refine endK.ret ?_ (by first | rfl | simp ); simp [evRes, getT, retV, Tryd.f71]
theorem nd8 (n : Nat) (hn : n < 2 ^ 64) (h64 : len64 n ≤ 64) (ht : len64 n * 78913 / 262144 = 8) : PC Tryd.prog 71 [.int .u64 n] (.int .i64 (8 + if 100000000 ≤ n then 1 else 0)) := by
  have hl := pc85 n hn
  have h85 := pow2_log (len64 n) h64
  rw [ht] at h85
  have h86 := pc86 (decide (100000000 ≤ n))
  have hd : decide ((100000000 : Int) ≤ (n : Int)) = decide (100000000 ≤ n) := by rw [decide_eq_decide]; omega
  have hle : (0 : Int) ≤ (if (decide (100000000 ≤ n)) = true then 1 else 0) ∧ (if (decide (100000000 ≤ n)) = true then (1 : Int) else 0) ≤ 1 := by split <;> decide
  have he : (if (decide (100000000 ≤ n)) = true then (1 : Int) else 0) = if 100000000 ≤ n then 1 else 0 := by simp
  rw [← he]
  generalize (if (decide (100000000 ≤ n)) = true then (1 : Int) else 0) = z at h86 hle
  generalize decide (100000000 ≤ n) = b at h86 hd
  refine PC.walk tok mixed cfg0 Tryd.func71 rfl Tryd.call71 (by simp ) (by first | rfl | simp ) ?_; simp (maxSteps := 2000000) -implicitDefEqProofs +contextual (disch := first | assumption | omega | decide +kernel) only [push_cast, ↓capI, br2_true, br2_false, frk_tt, frk_tf, frk_f, frkD_tt, frkD_tf, frkD_f, pk2_true, pk2_false, imp_true, seval, Nat.reduceLeDiff, Nat.reduceEqDiff, reduceCtorEq, ↓reduceIte, cfg0, take_rest, ibeq_dec, V.rn, rns, qn, setPs, rnOs, Ob.rn, gl0, glV, List.map, V.st, List.set_cons_zero, List.size_toArray, Tryd.ntmps71]
  refine callO.pc hl ?_
  simp (maxSteps := 2000000) -implicitDefEqProofs +contextual (disch := first | assumption | omega | decide +kernel) only [push_cast, ↓capI, br2_true, br2_false, frk_tt, frk_tf, frk_f, frkD_tt, frkD_tf, frkD_f, pk2_true, pk2_false, imp_true, seval, Nat.reduceLeDiff, Nat.reduceEqDiff, reduceCtorEq, ↓reduceIte, cfg0, take_rest, ibeq_dec, V.rn, rns, qn, setPs, rnOs, Ob.rn, gl0, glV, List.map, V.st, List.set_cons_zero, List.size_toArray]
  refine callO.pc h85 ?_
  simp (maxSteps := 2000000) -implicitDefEqProofs +contextual (disch := first | assumption | omega | decide +kernel) only [push_cast, ↓capI, br2_true, br2_false, frk_tt, frk_tf, frk_f, frkD_tt, frkD_tf, frkD_f, pk2_true, pk2_false, imp_true, seval, Nat.reduceLeDiff, Nat.reduceEqDiff, reduceCtorEq, ↓reduceIte, cfg0, take_rest, ibeq_dec, V.rn, rns, qn, setPs, rnOs, Ob.rn, gl0, glV, List.map, V.st, List.set_cons_zero, List.size_toArray, hd]
  refine callO.pc h86 ?_
  simp (maxSteps := 2000000) -implicitDefEqProofs +contextual (disch := first | assumption | omega | decide +kernel) only [push_cast, ↓capI, br2_true, br2_false, frk_tt, frk_tf, frk_f, frkD_tt, frkD_tf, frkD_f, pk2_true, pk2_false, imp_true, seval, Nat.reduceLeDiff, Nat.reduceEqDiff, reduceCtorEq, ↓reduceIte, cfg0, take_rest, ibeq_dec, V.rn, rns, qn, setPs, rnOs, Ob.rn, gl0, glV, List.map, V.st, List.set_cons_zero, List.size_toArray]
  refine endK.ret ?_ (by first | rfl | simp ); simp [evRes, getT, retV, Tryd.f71]
theorem nd9 (n : Nat) (hn : n < 2 ^ 64) (h64 : len64 n ≤ 64) (ht : len64 n * 78913 / 262144 = 9) : PC Tryd.prog 71 [.int .u64 n] (.int .i64 (9 + if 1000000000 ≤ n then 1 else 0)) := by
  have hl := pc85 n hn
  have h85 := pow2_log (len64 n) h64
  rw [ht] at h85
  have h86 := pc86 (decide (1000000000 ≤ n))
  have hd : decide ((1000000000 : Int) ≤ (n : Int)) = decide (1000000000 ≤ n) := by rw [decide_eq_decide]; omega
  have hle : (0 : Int) ≤ (if (decide (1000000000 ≤ n)) = true then 1 else 0) ∧ (if (decide (1000000000 ≤ n)) = true then (1 : Int) else 0) ≤ 1 := by split <;> decide
  have he : (if (decide (1000000000 ≤ n)) = true then (1 : Int) else 0) = if 1000000000 ≤ n then 1 else 0 := by simp
  rw [← he]
  generalize (if (decide (1000000000 ≤ n)) = true then (1 : Int) else 0) = z at h86 hle
  generalize decide (1000000000 ≤ n) = b at h86 hd
  refine PC.walk tok mixed cfg0 Tryd.func71 rfl Tryd.call71 (by simp ) (by first | rfl | simp ) ?_; simp (maxSteps := 2000000) -implicitDefEqProofs +contextual (disch := first | assumption | omega | decide +kernel) only [push_cast, ↓capI, br2_true, br2_false, frk_tt, frk_tf, frk_f, frkD_tt, frkD_tf, frkD_f, pk2_true, pk2_false, imp_true, seval, Nat.reduceLeDiff, Nat.reduceEqDiff, reduceCtorEq, ↓reduceIte, cfg0, take_rest, ibeq_dec, V.rn, rns, qn, setPs, rnOs, Ob.rn, gl0, glV, List.map, V.st, List.set_cons_zero, List.size_toArray, Tryd.ntmps71]
  refine callO.pc hl ?_
  simp (maxSteps := 2000000) -implicitDefEqProofs +contextual (disch := first | assumption | omega | decide +kernel) only [push_cast, ↓capI, br2_true, br2_false, frk_tt, frk_tf, frk_f, frkD_tt, frkD_tf, frkD_f, pk2_true, pk2_false, imp_true, seval, Nat.reduceLeDiff, Nat.reduceEqDiff, reduceCtorEq, ↓reduceIte, cfg0, take_rest, ibeq_dec, V.rn, rns, qn, setPs, rnOs, Ob.rn, gl0, glV, List.map, V.st, List.set_cons_zero, List.size_toArray]
  refine callO.pc h85 ?_
  simp (maxSteps := 2000000) -implicitDefEqProofs +contextual (disch := first | assumption | omega | decide +kernel) only [push_cast, ↓capI, br2_true, br2_false, frk_tt, frk_tf, frk_f, frkD_tt, frkD_tf, frkD_f, pk2_true, pk2_false, imp_true, seval, Nat.reduceLeDiff, Nat.reduceEqDiff, reduceCtorEq, ↓reduceIte, cfg0, take_rest, ibeq_dec, V.rn, rns, qn, setPs, rnOs, Ob.rn, gl0, glV, List.map, V.st, List.set_cons_zero, List.size_toArray, hd]
  refine callO.pc h86 ?_
  simp (maxSteps := 2000000) -implicitDefEqProofs +contextual (disch := first | assumption | omega | decide +kernel) only [push_cast, ↓capI, br2_true, br2_false, frk_tt, frk_tf, frk_f, frkD_tt, frkD_tf, frkD_f, pk2_true, pk2_false, imp_true, seval, Nat.reduceLeDiff, Nat.reduceEqDiff, reduceCtorEq, ↓reduceIte, cfg0, take_rest, ibeq_dec, V.rn, rns, qn, setPs, rnOs, Ob.rn, gl0, glV, List.map, V.st, List.set_cons_zero, List.size_toArray]
  refine endK.ret ?_ (by first | rfl | simp ); simp [evRes, getT, retV, Tryd.f71]
theorem numDigits (n k : Nat) (hk : 3 ≤ k ∧ k ≤ 9) (h1 : 10 ^ (k - 1) ≤ n) (h2 : n < 10 ^ k) : PC Tryd.prog 71 [.int .u64 n] (.int .i64 k) := by
  have hkk : k = 3 ∨ k = 4 ∨ k = 5 ∨ k = 6 ∨ k = 7 ∨ k = 8 ∨ k = 9 := by omega
  have hn : 100 ≤ n ∧ n < 1000000000 := by
    rcases hkk with rfl | rfl | rfl | rfl | rfl | rfl | rfl <;> simp only [Nat.reducePow, Nat.reduceSub] at h1 h2 <;> omega
  by_cases c6 : n < 128
  · have hx : len64 n = 7 := len64_of (x := 6) (by omega) c6
    have h := nd2 n (by omega) (by rw [hx]; decide) (by rw [hx])
    have e : ((2 : Int) + if 100 ≤ n then 1 else 0) = (k : Int) := by
      rcases hkk with rfl | rfl | rfl | rfl | rfl | rfl | rfl <;> simp only [Nat.reducePow, Nat.reduceSub] at h1 h2 <;> split <;> omega
    rw [e] at h
    exact h
  by_cases c7 : n < 256
  · have hx : len64 n = 8 := len64_of (x := 7) (by omega) c7
    have h := nd2 n (by omega) (by rw [hx]; decide) (by rw [hx])
    have e : ((2 : Int) + if 100 ≤ n then 1 else 0) = (k : Int) := by
      rcases hkk with rfl | rfl | rfl | rfl | rfl | rfl | rfl <;> simp only [Nat.reducePow, Nat.reduceSub] at h1 h2 <;> split <;> omega
    rw [e] at h
    exact h
  by_cases c8 : n < 512
  · have hx : len64 n = 9 := len64_of (x := 8) (by omega) c8
    have h := nd2 n (by omega) (by rw [hx]; decide) (by rw [hx])
    have e : ((2 : Int) + if 100 ≤ n then 1 else 0) = (k : Int) := by
      rcases hkk with rfl | rfl | rfl | rfl | rfl | rfl | rfl <;> simp only [Nat.reducePow, Nat.reduceSub] at h1 h2 <;> split <;> omega
    rw [e] at h
    exact h
  by_cases c9 : n < 1024
  · have hx : len64 n = 10 := len64_of (x := 9) (by omega) c9
    have h := nd3 n (by omega) (by rw [hx]; decide) (by rw [hx])
    have e : ((3 : Int) + if 1000 ≤ n then 1 else 0) = (k : Int) := by
      rcases hkk with rfl | rfl | rfl | rfl | rfl | rfl | rfl <;> simp only [Nat.reducePow, Nat.reduceSub] at h1 h2 <;> split <;> omega
    rw [e] at h
    exact h
  by_cases c10 : n < 2048
  · have hx : len64 n = 11 := len64_of (x := 10) (by omega) c10
    have h := nd3 n (by omega) (by rw [hx]; decide) (by rw [hx])
    have e : ((3 : Int) + if 1000 ≤ n then 1 else 0) = (k : Int) := by
      rcases hkk with rfl | rfl | rfl | rfl | rfl | rfl | rfl <;> simp only [Nat.reducePow, Nat.reduceSub] at h1 h2 <;> split <;> omega
    rw [e] at h
    exact h
  by_cases c11 : n < 4096
  · have hx : len64 n = 12 := len64_of (x := 11) (by omega) c11
    have h := nd3 n (by omega) (by rw [hx]; decide) (by rw [hx])
    have e : ((3 : Int) + if 1000 ≤ n then 1 else 0) = (k : Int) := by
      rcases hkk with rfl | rfl | rfl | rfl | rfl | rfl | rfl <;> simp only [Nat.reducePow, Nat.reduceSub] at h1 h2 <;> split <;> omega
    rw [e] at h
    exact h
  by_cases c12 : n < 8192
  · have hx : len64 n = 13 := len64_of (x := 12) (by omega) c12
    have h := nd3 n (by omega) (by rw [hx]; decide) (by rw [hx])
    have e : ((3 : Int) + if 1000 ≤ n then 1 else 0) = (k : Int) := by
      rcases hkk with rfl | rfl | rfl | rfl | rfl | rfl | rfl <;> simp only [Nat.reducePow, Nat.reduceSub] at h1 h2 <;> split <;> omega
    rw [e] at h
    exact h
  by_cases c13 : n < 16384
  · have hx : len64 n = 14 := len64_of (x := 13) (by omega) c13
    have h := nd4 n (by omega) (by rw [hx]; decide) (by rw [hx])
    have e : ((4 : Int) + if 10000 ≤ n then 1 else 0) = (k : Int) := by
      rcases hkk with rfl | rfl | rfl | rfl | rfl | rfl | rfl <;> simp only [Nat.reducePow, Nat.reduceSub] at h1 h2 <;> split <;> omega
    rw [e] at h
    exact h
  by_cases c14 : n < 32768
  · have hx : len64 n = 15 := len64_of (x := 14) (by omega) c14
    have h := nd4 n (by omega) (by rw [hx]; decide) (by rw [hx])
    have e : ((4 : Int) + if 10000 ≤ n then 1 else 0) = (k : Int) := by
      rcases hkk with rfl | rfl | rfl | rfl | rfl | rfl | rfl <;> simp only [Nat.reducePow, Nat.reduceSub] at h1 h2 <;> split <;> omega
    rw [e] at h
    exact h
  by_cases c15 : n < 65536
  · have hx : len64 n = 16 := len64_of (x := 15) (by omega) c15
    have h := nd4 n (by omega) (by rw [hx]; decide) (by rw [hx])
    have e : ((4 : Int) + if 10000 ≤ n then 1 else 0) = (k : Int) := by
      rcases hkk with rfl | rfl | rfl | rfl | rfl | rfl | rfl <;> simp only [Nat.reducePow, Nat.reduceSub] at h1 h2 <;> split <;> omega
    rw [e] at h
    exact h
  by_cases c16 : n < 131072
  · have hx : len64 n = 17 := len64_of (x := 16) (by omega) c16
    have h := nd5 n (by omega) (by rw [hx]; decide) (by rw [hx])
    have e : ((5 : Int) + if 100000 ≤ n then 1 else 0) = (k : Int) := by
      rcases hkk with rfl | rfl | rfl | rfl | rfl | rfl | rfl <;> simp only [Nat.reducePow, Nat.reduceSub] at h1 h2 <;> split <;> omega
    rw [e] at h
    exact h
  by_cases c17 : n < 262144
  · have hx : len64 n = 18 := len64_of (x := 17) (by omega) c17
    have h := nd5 n (by omega) (by rw [hx]; decide) (by rw [hx])
    have e : ((5 : Int) + if 100000 ≤ n then 1 else 0) = (k : Int) := by
      rcases hkk with rfl | rfl | rfl | rfl | rfl | rfl | rfl <;> simp only [Nat.reducePow, Nat.reduceSub] at h1 h2 <;> split <;> omega
    rw [e] at h
    exact h
  by_cases c18 : n < 524288
  · have hx : len64 n = 19 := len64_of (x := 18) (by omega) c18
    have h := nd5 n (by omega) (by rw [hx]; decide) (by rw [hx])
    have e : ((5 : Int) + if 100000 ≤ n then 1 else 0) = (k : Int) := by
      rcases hkk with rfl | rfl | rfl | rfl | rfl | rfl | rfl <;> simp only [Nat.reducePow, Nat.reduceSub] at h1 h2 <;> split <;> omega
    rw [e] at h
    exact h
  by_cases c19 : n < 1048576
  · have hx : len64 n = 20 := len64_of (x := 19) (by omega) c19
    have h := nd6 n (by omega) (by rw [hx]; decide) (by rw [hx])
    have e : ((6 : Int) + if 1000000 ≤ n then 1 else 0) = (k : Int) := by
      rcases hkk with rfl | rfl | rfl | rfl | rfl | rfl | rfl <;> simp only [Nat.reducePow, Nat.reduceSub] at h1 h2 <;> split <;> omega
    rw [e] at h
    exact h
  by_cases c20 : n < 2097152
  · have hx : len64 n = 21 := len64_of (x := 20) (by omega) c20
    have h := nd6 n (by omega) (by rw [hx]; decide) (by rw [hx])
    have e : ((6 : Int) + if 1000000 ≤ n then 1 else 0) = (k : Int) := by
      rcases hkk with rfl | rfl | rfl | rfl | rfl | rfl | rfl <;> simp only [Nat.reducePow, Nat.reduceSub] at h1 h2 <;> split <;> omega
    rw [e] at h
    exact h
  by_cases c21 : n < 4194304
  · have hx : len64 n = 22 := len64_of (x := 21) (by omega) c21
    have h := nd6 n (by omega) (by rw [hx]; decide) (by rw [hx])
    have e : ((6 : Int) + if 1000000 ≤ n then 1 else 0) = (k : Int) := by
      rcases hkk with rfl | rfl | rfl | rfl | rfl | rfl | rfl <;> simp only [Nat.reducePow, Nat.reduceSub] at h1 h2 <;> split <;> omega
    rw [e] at h
    exact h
  by_cases c22 : n < 8388608
  · have hx : len64 n = 23 := len64_of (x := 22) (by omega) c22
    have h := nd6 n (by omega) (by rw [hx]; decide) (by rw [hx])
    have e : ((6 : Int) + if 1000000 ≤ n then 1 else 0) = (k : Int) := by
      rcases hkk with rfl | rfl | rfl | rfl | rfl | rfl | rfl <;> simp only [Nat.reducePow, Nat.reduceSub] at h1 h2 <;> split <;> omega
    rw [e] at h
    exact h
  by_cases c23 : n < 16777216
  · have hx : len64 n = 24 := len64_of (x := 23) (by omega) c23
    have h := nd7 n (by omega) (by rw [hx]; decide) (by rw [hx])
    have e : ((7 : Int) + if 10000000 ≤ n then 1 else 0) = (k : Int) := by
      rcases hkk with rfl | rfl | rfl | rfl | rfl | rfl | rfl <;> simp only [Nat.reducePow, Nat.reduceSub] at h1 h2 <;> split <;> omega
    rw [e] at h
    exact h
  by_cases c24 : n < 33554432
  · have hx : len64 n = 25 := len64_of (x := 24) (by omega) c24
    have h := nd7 n (by omega) (by rw [hx]; decide) (by rw [hx])
    have e : ((7 : Int) + if 10000000 ≤ n then 1 else 0) = (k : Int) := by
      rcases hkk with rfl | rfl | rfl | rfl | rfl | rfl | rfl <;> simp only [Nat.reducePow, Nat.reduceSub] at h1 h2 <;> split <;> omega
    rw [e] at h
    exact h
  by_cases c25 : n < 67108864
  · have hx : len64 n = 26 := len64_of (x := 25) (by omega) c25
    have h := nd7 n (by omega) (by rw [hx]; decide) (by rw [hx])
    have e : ((7 : Int) + if 10000000 ≤ n then 1 else 0) = (k : Int) := by
      rcases hkk with rfl | rfl | rfl | rfl | rfl | rfl | rfl <;> simp only [Nat.reducePow, Nat.reduceSub] at h1 h2 <;> split <;> omega
    rw [e] at h
    exact h
  by_cases c26 : n < 134217728
  · have hx : len64 n = 27 := len64_of (x := 26) (by omega) c26
    have h := nd8 n (by omega) (by rw [hx]; decide) (by rw [hx])
    have e : ((8 : Int) + if 100000000 ≤ n then 1 else 0) = (k : Int) := by
      rcases hkk with rfl | rfl | rfl | rfl | rfl | rfl | rfl <;> simp only [Nat.reducePow, Nat.reduceSub] at h1 h2 <;> split <;> omega
    rw [e] at h
    exact h
  by_cases c27 : n < 268435456
  · have hx : len64 n = 28 := len64_of (x := 27) (by omega) c27
    have h := nd8 n (by omega) (by rw [hx]; decide) (by rw [hx])
    have e : ((8 : Int) + if 100000000 ≤ n then 1 else 0) = (k : Int) := by
      rcases hkk with rfl | rfl | rfl | rfl | rfl | rfl | rfl <;> simp only [Nat.reducePow, Nat.reduceSub] at h1 h2 <;> split <;> omega
    rw [e] at h
    exact h
  by_cases c28 : n < 536870912
  · have hx : len64 n = 29 := len64_of (x := 28) (by omega) c28
    have h := nd8 n (by omega) (by rw [hx]; decide) (by rw [hx])
    have e : ((8 : Int) + if 100000000 ≤ n then 1 else 0) = (k : Int) := by
      rcases hkk with rfl | rfl | rfl | rfl | rfl | rfl | rfl <;> simp only [Nat.reducePow, Nat.reduceSub] at h1 h2 <;> split <;> omega
    rw [e] at h
    exact h
  by_cases c29 : n < 1073741824
  · have hx : len64 n = 30 := len64_of (x := 29) (by omega) c29
    have h := nd9 n (by omega) (by rw [hx]; decide) (by rw [hx])
    have e : ((9 : Int) + if 1000000000 ≤ n then 1 else 0) = (k : Int) := by
      rcases hkk with rfl | rfl | rfl | rfl | rfl | rfl | rfl <;> simp only [Nat.reducePow, Nat.reduceSub] at h1 h2 <;> split <;> omega
    rw [e] at h
    exact h
  omega
end Go.Proofs.YtginpkchjeooeaaDoor

/- Integers of up to nine digits, written by the program: the digits in the array. -/
set_option maxRecDepth 100000
set_option maxHeartbeats 4000000
set_option linter.all false
namespace Go.Proofs.YtginpkchjeooeaaDoor
open Go.Vm

def dc (m : Nat) : V := .int .u8 ((48 + m : Nat) : Int)
theorem bel_dc {n m : Nat} : (dc m).bel n = true := rfl
theorem u32_two {m : Nat} (h : m < 100) : IntKind.u32.wrap ((m : Int) * 2) = (m : Int) * 2 := u32_id (by omega)
theorem u32_one {m : Nat} (h : m < 100) : IntKind.u32.wrap ((m : Int) * 2 + 1) = (m : Int) * 2 + 1 := u32_id (by omega)
theorem nat_two {m : Nat} : ((m : Int) * 2).toNat = m * 2 := by omega
theorem nat_one {m : Nat} : ((m : Int) * 2 + 1).toNat = m * 2 + 1 := by omega
theorem u32_48 {m : Nat} (h : m < 100) : IntKind.u32.wrap (48 + (m : Int)) = 48 + (m : Int) := u32_id (by omega)
theorem u8_48 {m : Nat} (h : m < 100) : IntKind.u8.wrap (48 + (m : Int)) = 48 + (m : Int) := u8_id (by omega)

theorem g80_3 (a A n : Nat) (hA : A < 100) (ha : a < 10) (hn : n = a * 100 + A) : GCall Tryd.prog 72 [.buf 0 0 1 3 1, .int .u64 n] [.cells 0 z24] (.tup []) [.cells 0 ([.int .u8 0, dc a, dc (A / 10), dc (A % 10)] ++ List.replicate 20 (.int .u8 0))] := by
  have hn9 : n < 1000000000 := by omega
  have hx : True := trivial
  have r1 : IntKind.u32.wrap ((n : Nat) : Int) = ((n : Nat) : Int) := by exact u32_id (by omega)
  have r2 : ((n : Nat) : Int).tmod 100 = ((A : Nat) : Int) := by rw [Int.tmod_eq_emod_of_nonneg (by omega)]; omega
  have r3 : ((n : Nat) : Int).tdiv 100 = ((a : Nat) : Int) := by rw [Int.tdiv_eq_ediv_of_nonneg (by omega)]; omega
  have wA : IntKind.u32.wrap ((A : Nat) : Int) = ((A : Nat) : Int) := by exact u32_id (by omega)
  have wa : IntKind.u32.wrap ((a : Nat) : Int) = ((a : Nat) : Int) := by exact u32_id (by omega)
  unfold z24
  simp only [List.replicate]
  refine GC.walk tok mixed cfg0 Tryd.func72 rfl Tryd.call72 ?_; simp (maxSteps := 2000000) -implicitDefEqProofs +contextual (disch := first | assumption | omega | decide +kernel) only [push_cast, ↓capI, br2_true, br2_false, frk_tt, frk_tf, frk_f, frkD_tt, frkD_tf, frkD_f, pk2_true, pk2_false, imp_true, seval, Nat.reduceLeDiff, Nat.reduceEqDiff, reduceCtorEq, ↓reduceIte, cfg0, take_rest, ibeq_dec, V.rn, rns, qn, setPs, rnOs, Ob.rn, gl0, glV, List.map, V.st, List.set_cons_zero, List.size_toArray, Tryd.ntmps72]
  refine T.lp tok mixed cfg0 (fun (j : Nat) => kp 1 (sv (.int .u64 n) (dd 2 (sv (.int .i64 3) (dd 162 (nl)))))) (fun H0 (j : Nat) => [.cells 0 z24]) (fun (j : Nat) => j = 0) (fun (j : Nat) => 0) (0) ?_ ?_ ?_
  · rfl
  · unfold z24
    simp only [List.replicate]
    exact Gn.canon (J := []) (by first | rfl | (simp [List.append_nil]; done) | (simp [List.append_nil]; rfl)) (by simp [wk, putT, kp, dd, sv, nl]) (by simp [List.length_append]) (by simp [bel_dc, kp, dd, sv, nl]) (by simp [bel_dc])
  rintro j rfl
  unfold z24
  simp only [List.replicate]
  simp (maxSteps := 2000000) -implicitDefEqProofs +contextual (disch := first | assumption | omega | decide +kernel) only [push_cast, ↓capI, br2_true, br2_false, frk_tt, frk_tf, frk_f, frkD_tt, frkD_tf, frkD_f, pk2_true, pk2_false, imp_true, seval, Nat.reduceLeDiff, Nat.reduceEqDiff, reduceCtorEq, ↓reduceIte, cfg0, take_rest, ibeq_dec, V.rn, rns, qn, setPs, rnOs, Ob.rn, gl0, glV, List.map, V.st, List.set_cons_zero, List.size_toArray, r1, r2, r3, wA, wa, u32_two, u32_one, nat_two, nat_one, u32_48, u8_48, bigA, bigB, bigL]
  refine endG.normal ([]) (by first | rfl | simp [bel_dc, fzs_ok, getO, setO, fzs, fz, fzH, Nat.beq, tt_3, tt_4, tt_5, tt_9, tt_91, tt_112, tt_115, tt_117, tt_133, tt_111, tt_124, tt_2, tt_93, tt_99, tt_123, cfg0, take_rest, ibeq_dec, V.rn, rns, qn, setPs, rnOs, Ob.rn, gl0, glV, List.map, V.st, List.set_cons_zero, List.size_toArray, dc, List.replicate, hx]) (by simp) (by simp [bel_dc, fzs_ok, imp, lenOK_iff, List.take_of_length_le, evRes, getT, getO, setO, fzs, fz, fzH, Nat.beq, retV, Res.then, ldT, ldR, mkV, getV, tt_3, tt_4, tt_5, tt_9, tt_91, tt_112, tt_115, tt_117, tt_133, tt_111, tt_124, tt_2, tt_93, tt_99, tt_123, cfg0, take_rest, ibeq_dec, V.rn, rns, qn, setPs, rnOs, Ob.rn, gl0, glV, List.map, V.st, List.set_cons_zero, List.size_toArray, Tryd.f72, dc, List.replicate, hx]) (by first | rfl | simp [bel_dc, dc, List.replicate, hx]) (by first | rfl | simp [bel_dc, dc, List.replicate, hx])
theorem g80_4 (B A n : Nat) (hA : A < 100) (hB : B < 100) (hn : n = B * 100 + A) : GCall Tryd.prog 72 [.buf 0 0 1 4 1, .int .u64 n] [.cells 0 z24] (.tup []) [.cells 0 ([.int .u8 0, dc (B / 10), dc (B % 10), dc (A / 10), dc (A % 10)] ++ List.replicate 19 (.int .u8 0))] := by
  have hn9 : n < 1000000000 := by omega
  obtain ⟨y, hy⟩ : ∃ y, y = B * 100 + A := ⟨_, rfl⟩
  obtain ⟨x, hx⟩ : ∃ x, x = 0 := ⟨_, rfl⟩
  have r1 : IntKind.u32.wrap ((n : Nat) : Int) = ((n : Nat) : Int) := by exact u32_id (by omega)
  have r2 : ((n : Nat) : Int).tmod 10000 = ((y : Nat) : Int) := by rw [Int.tmod_eq_emod_of_nonneg (by omega)]; omega
  have r3 : ((n : Nat) : Int).tdiv 10000 = ((x : Nat) : Int) := by rw [Int.tdiv_eq_ediv_of_nonneg (by omega)]; omega
  have r4 : ((y : Nat) : Int).tdiv 100 = ((B : Nat) : Int) := by rw [Int.tdiv_eq_ediv_of_nonneg (by omega)]; omega
  have r5 : ((y : Nat) : Int).tmod 100 = ((A : Nat) : Int) := by rw [Int.tmod_eq_emod_of_nonneg (by omega)]; omega
  have r6 : IntKind.u32.wrap ((x : Nat) : Int) = ((x : Nat) : Int) := by exact u32_id (by omega)
  have r7 : IntKind.u32.wrap ((y : Nat) : Int) = ((y : Nat) : Int) := by exact u32_id (by omega)
  have wA : IntKind.u32.wrap ((A : Nat) : Int) = ((A : Nat) : Int) := by exact u32_id (by omega)
  have wB : IntKind.u32.wrap ((B : Nat) : Int) = ((B : Nat) : Int) := by exact u32_id (by omega)
  unfold z24
  simp only [List.replicate]
  refine GC.walk tok mixed cfg0 Tryd.func72 rfl Tryd.call72 ?_; simp (maxSteps := 2000000) -implicitDefEqProofs +contextual (disch := first | assumption | omega | decide +kernel) only [push_cast, ↓capI, br2_true, br2_false, frk_tt, frk_tf, frk_f, frkD_tt, frkD_tf, frkD_f, pk2_true, pk2_false, imp_true, seval, Nat.reduceLeDiff, Nat.reduceEqDiff, reduceCtorEq, ↓reduceIte, cfg0, take_rest, ibeq_dec, V.rn, rns, qn, setPs, rnOs, Ob.rn, gl0, glV, List.map, V.st, List.set_cons_zero, List.size_toArray, Tryd.ntmps72]
  refine T.lp tok mixed cfg0 (fun (j : Nat) => kp 1 (sv (.int .u64 n) (dd 2 (sv (.int .i64 4) (dd 162 (nl)))))) (fun H0 (j : Nat) => [.cells 0 z24]) (fun (j : Nat) => j = 0) (fun (j : Nat) => 0) (0) ?_ ?_ ?_
  · rfl
  · unfold z24
    simp only [List.replicate]
    exact Gn.canon (J := []) (by first | rfl | (simp [List.append_nil]; done) | (simp [List.append_nil]; rfl)) (by simp [wk, putT, kp, dd, sv, nl]) (by simp [List.length_append]) (by simp [bel_dc, kp, dd, sv, nl]) (by simp [bel_dc])
  rintro j rfl
  unfold z24
  simp only [List.replicate]
  simp (maxSteps := 2000000) -implicitDefEqProofs +contextual (disch := first | assumption | omega | decide +kernel) only [push_cast, ↓capI, br2_true, br2_false, frk_tt, frk_tf, frk_f, frkD_tt, frkD_tf, frkD_f, pk2_true, pk2_false, imp_true, seval, Nat.reduceLeDiff, Nat.reduceEqDiff, reduceCtorEq, ↓reduceIte, cfg0, take_rest, ibeq_dec, V.rn, rns, qn, setPs, rnOs, Ob.rn, gl0, glV, List.map, V.st, List.set_cons_zero, List.size_toArray, r1, r2, r3, r4, r5, r6, r7, wA, wB, u32_two, u32_one, nat_two, nat_one, u32_48, u8_48, bigA, bigB, bigL]
  refine endG.normal ([]) (by first | rfl | simp [bel_dc, fzs_ok, getO, setO, fzs, fz, fzH, Nat.beq, tt_3, tt_4, tt_5, tt_9, tt_91, tt_112, tt_115, tt_117, tt_133, tt_111, tt_124, tt_2, tt_93, tt_99, tt_123, cfg0, take_rest, ibeq_dec, V.rn, rns, qn, setPs, rnOs, Ob.rn, gl0, glV, List.map, V.st, List.set_cons_zero, List.size_toArray, dc, List.replicate, hx]) (by simp) (by simp [bel_dc, fzs_ok, imp, lenOK_iff, List.take_of_length_le, evRes, getT, getO, setO, fzs, fz, fzH, Nat.beq, retV, Res.then, ldT, ldR, mkV, getV, tt_3, tt_4, tt_5, tt_9, tt_91, tt_112, tt_115, tt_117, tt_133, tt_111, tt_124, tt_2, tt_93, tt_99, tt_123, cfg0, take_rest, ibeq_dec, V.rn, rns, qn, setPs, rnOs, Ob.rn, gl0, glV, List.map, V.st, List.set_cons_zero, List.size_toArray, Tryd.f72, dc, List.replicate, hx]) (by first | rfl | simp [bel_dc, dc, List.replicate, hx]) (by first | rfl | simp [bel_dc, dc, List.replicate, hx])
theorem g80_5 (a B A n : Nat) (hA : A < 100) (hB : B < 100) (ha : a < 10) (hn : n = a * 10000 + B * 100 + A) : GCall Tryd.prog 72 [.buf 0 0 1 5 1, .int .u64 n] [.cells 0 z24] (.tup []) [.cells 0 ([.int .u8 0, dc a, dc (B / 10), dc (B % 10), dc (A / 10), dc (A % 10)] ++ List.replicate 18 (.int .u8 0))] := by
  have hn9 : n < 1000000000 := by omega
  obtain ⟨y, hy⟩ : ∃ y, y = B * 100 + A := ⟨_, rfl⟩
  obtain ⟨x, hx⟩ : ∃ x, x = a := ⟨_, rfl⟩
  have r1 : IntKind.u32.wrap ((n : Nat) : Int) = ((n : Nat) : Int) := by exact u32_id (by omega)
  have r2 : ((n : Nat) : Int).tmod 10000 = ((y : Nat) : Int) := by rw [Int.tmod_eq_emod_of_nonneg (by omega)]; omega
  have r3 : ((n : Nat) : Int).tdiv 10000 = ((x : Nat) : Int) := by rw [Int.tdiv_eq_ediv_of_nonneg (by omega)]; omega
  have r4 : ((y : Nat) : Int).tdiv 100 = ((B : Nat) : Int) := by rw [Int.tdiv_eq_ediv_of_nonneg (by omega)]; omega
  have r5 : ((y : Nat) : Int).tmod 100 = ((A : Nat) : Int) := by rw [Int.tmod_eq_emod_of_nonneg (by omega)]; omega
  have r6 : IntKind.u32.wrap ((x : Nat) : Int) = ((x : Nat) : Int) := by exact u32_id (by omega)
  have r7 : IntKind.u32.wrap ((y : Nat) : Int) = ((y : Nat) : Int) := by exact u32_id (by omega)
  have wA : IntKind.u32.wrap ((A : Nat) : Int) = ((A : Nat) : Int) := by exact u32_id (by omega)
  have wB : IntKind.u32.wrap ((B : Nat) : Int) = ((B : Nat) : Int) := by exact u32_id (by omega)
  have wa : IntKind.u32.wrap ((a : Nat) : Int) = ((a : Nat) : Int) := by exact u32_id (by omega)
  unfold z24
  simp only [List.replicate]
  refine GC.walk tok mixed cfg0 Tryd.func72 rfl Tryd.call72 ?_; simp (maxSteps := 2000000) -implicitDefEqProofs +contextual (disch := first | assumption | omega | decide +kernel) only [push_cast, ↓capI, br2_true, br2_false, frk_tt, frk_tf, frk_f, frkD_tt, frkD_tf, frkD_f, pk2_true, pk2_false, imp_true, seval, Nat.reduceLeDiff, Nat.reduceEqDiff, reduceCtorEq, ↓reduceIte, cfg0, take_rest, ibeq_dec, V.rn, rns, qn, setPs, rnOs, Ob.rn, gl0, glV, List.map, V.st, List.set_cons_zero, List.size_toArray, Tryd.ntmps72]
  refine T.lp tok mixed cfg0 (fun (j : Nat) => kp 1 (sv (.int .u64 n) (dd 2 (sv (.int .i64 5) (dd 162 (nl)))))) (fun H0 (j : Nat) => [.cells 0 z24]) (fun (j : Nat) => j = 0) (fun (j : Nat) => 0) (0) ?_ ?_ ?_
  · rfl
  · unfold z24
    simp only [List.replicate]
    exact Gn.canon (J := []) (by first | rfl | (simp [List.append_nil]; done) | (simp [List.append_nil]; rfl)) (by simp [wk, putT, kp, dd, sv, nl]) (by simp [List.length_append]) (by simp [bel_dc, kp, dd, sv, nl]) (by simp [bel_dc])
  rintro j rfl
  unfold z24
  simp only [List.replicate]
  simp (maxSteps := 2000000) -implicitDefEqProofs +contextual (disch := first | assumption | omega | decide +kernel) only [push_cast, ↓capI, br2_true, br2_false, frk_tt, frk_tf, frk_f, frkD_tt, frkD_tf, frkD_f, pk2_true, pk2_false, imp_true, seval, Nat.reduceLeDiff, Nat.reduceEqDiff, reduceCtorEq, ↓reduceIte, cfg0, take_rest, ibeq_dec, V.rn, rns, qn, setPs, rnOs, Ob.rn, gl0, glV, List.map, V.st, List.set_cons_zero, List.size_toArray, r1, r2, r3, r4, r5, r6, r7, wA, wB, wa, u32_two, u32_one, nat_two, nat_one, u32_48, u8_48, bigA, bigB, bigL]
  refine endG.normal ([]) (by first | rfl | simp [bel_dc, fzs_ok, getO, setO, fzs, fz, fzH, Nat.beq, tt_3, tt_4, tt_5, tt_9, tt_91, tt_112, tt_115, tt_117, tt_133, tt_111, tt_124, tt_2, tt_93, tt_99, tt_123, cfg0, take_rest, ibeq_dec, V.rn, rns, qn, setPs, rnOs, Ob.rn, gl0, glV, List.map, V.st, List.set_cons_zero, List.size_toArray, dc, List.replicate, hx]) (by simp) (by simp [bel_dc, fzs_ok, imp, lenOK_iff, List.take_of_length_le, evRes, getT, getO, setO, fzs, fz, fzH, Nat.beq, retV, Res.then, ldT, ldR, mkV, getV, tt_3, tt_4, tt_5, tt_9, tt_91, tt_112, tt_115, tt_117, tt_133, tt_111, tt_124, tt_2, tt_93, tt_99, tt_123, cfg0, take_rest, ibeq_dec, V.rn, rns, qn, setPs, rnOs, Ob.rn, gl0, glV, List.map, V.st, List.set_cons_zero, List.size_toArray, Tryd.f72, dc, List.replicate, hx]) (by first | rfl | simp [bel_dc, dc, List.replicate, hx]) (by first | rfl | simp [bel_dc, dc, List.replicate, hx])
theorem g80_6 (C B A n : Nat) (hA : A < 100) (hB : B < 100) (hC : C < 100) (hn : n = C * 10000 + B * 100 + A) : GCall Tryd.prog 72 [.buf 0 0 1 6 1, .int .u64 n] [.cells 0 z24] (.tup []) [.cells 0 ([.int .u8 0, dc (C / 10), dc (C % 10), dc (B / 10), dc (B % 10), dc (A / 10), dc (A % 10)] ++ List.replicate 17 (.int .u8 0))] := by
  have hn9 : n < 1000000000 := by omega
  obtain ⟨y, hy⟩ : ∃ y, y = B * 100 + A := ⟨_, rfl⟩
  obtain ⟨x, hx⟩ : ∃ x, x = C := ⟨_, rfl⟩
  have r1 : IntKind.u32.wrap ((n : Nat) : Int) = ((n : Nat) : Int) := by exact u32_id (by omega)
  have r2 : ((n : Nat) : Int).tmod 10000 = ((y : Nat) : Int) := by rw [Int.tmod_eq_emod_of_nonneg (by omega)]; omega
  have r3 : ((n : Nat) : Int).tdiv 10000 = ((x : Nat) : Int) := by rw [Int.tdiv_eq_ediv_of_nonneg (by omega)]; omega
  have r4 : ((y : Nat) : Int).tdiv 100 = ((B : Nat) : Int) := by rw [Int.tdiv_eq_ediv_of_nonneg (by omega)]; omega
  have r5 : ((y : Nat) : Int).tmod 100 = ((A : Nat) : Int) := by rw [Int.tmod_eq_emod_of_nonneg (by omega)]; omega
  have r6 : IntKind.u32.wrap ((x : Nat) : Int) = ((x : Nat) : Int) := by exact u32_id (by omega)
  have r7 : IntKind.u32.wrap ((y : Nat) : Int) = ((y : Nat) : Int) := by exact u32_id (by omega)
  have wA : IntKind.u32.wrap ((A : Nat) : Int) = ((A : Nat) : Int) := by exact u32_id (by omega)
  have wB : IntKind.u32.wrap ((B : Nat) : Int) = ((B : Nat) : Int) := by exact u32_id (by omega)
  have r8 : ((x : Nat) : Int).tmod 100 = ((C : Nat) : Int) := by rw [Int.tmod_eq_emod_of_nonneg (by omega)]; omega
  have r9 : ((x : Nat) : Int).tdiv 100 = ((0 : Nat) : Int) := by rw [Int.tdiv_eq_ediv_of_nonneg (by omega)]; omega
  have wC : IntKind.u32.wrap ((C : Nat) : Int) = ((C : Nat) : Int) := by exact u32_id (by omega)
  unfold z24
  simp only [List.replicate]
  refine GC.walk tok mixed cfg0 Tryd.func72 rfl Tryd.call72 ?_; simp (maxSteps := 2000000) -implicitDefEqProofs +contextual (disch := first | assumption | omega | decide +kernel) only [push_cast, ↓capI, br2_true, br2_false, frk_tt, frk_tf, frk_f, frkD_tt, frkD_tf, frkD_f, pk2_true, pk2_false, imp_true, seval, Nat.reduceLeDiff, Nat.reduceEqDiff, reduceCtorEq, ↓reduceIte, cfg0, take_rest, ibeq_dec, V.rn, rns, qn, setPs, rnOs, Ob.rn, gl0, glV, List.map, V.st, List.set_cons_zero, List.size_toArray, Tryd.ntmps72]
  refine T.lp tok mixed cfg0 (fun (j : Nat) => kp 1 (sv (.int .u64 n) (dd 2 (sv (.int .i64 6) (dd 162 (nl)))))) (fun H0 (j : Nat) => [.cells 0 z24]) (fun (j : Nat) => j = 0) (fun (j : Nat) => 0) (0) ?_ ?_ ?_
  · rfl
  · unfold z24
    simp only [List.replicate]
    exact Gn.canon (J := []) (by first | rfl | (simp [List.append_nil]; done) | (simp [List.append_nil]; rfl)) (by simp [wk, putT, kp, dd, sv, nl]) (by simp [List.length_append]) (by simp [bel_dc, kp, dd, sv, nl]) (by simp [bel_dc])
  rintro j rfl
  unfold z24
  simp only [List.replicate]
  simp (maxSteps := 2000000) -implicitDefEqProofs +contextual (disch := first | assumption | omega | decide +kernel) only [push_cast, ↓capI, br2_true, br2_false, frk_tt, frk_tf, frk_f, frkD_tt, frkD_tf, frkD_f, pk2_true, pk2_false, imp_true, seval, Nat.reduceLeDiff, Nat.reduceEqDiff, reduceCtorEq, ↓reduceIte, cfg0, take_rest, ibeq_dec, V.rn, rns, qn, setPs, rnOs, Ob.rn, gl0, glV, List.map, V.st, List.set_cons_zero, List.size_toArray, r1, r2, r3, r4, r5, r6, r7, wA, wB, r8, r9, wC, u32_two, u32_one, nat_two, nat_one, u32_48, u8_48, bigA, bigB, bigL]
  refine endG.normal ([]) (by first | rfl | simp [bel_dc, fzs_ok, getO, setO, fzs, fz, fzH, Nat.beq, tt_3, tt_4, tt_5, tt_9, tt_91, tt_112, tt_115, tt_117, tt_133, tt_111, tt_124, tt_2, tt_93, tt_99, tt_123, cfg0, take_rest, ibeq_dec, V.rn, rns, qn, setPs, rnOs, Ob.rn, gl0, glV, List.map, V.st, List.set_cons_zero, List.size_toArray, dc, List.replicate, hx]) (by simp) (by simp [bel_dc, fzs_ok, imp, lenOK_iff, List.take_of_length_le, evRes, getT, getO, setO, fzs, fz, fzH, Nat.beq, retV, Res.then, ldT, ldR, mkV, getV, tt_3, tt_4, tt_5, tt_9, tt_91, tt_112, tt_115, tt_117, tt_133, tt_111, tt_124, tt_2, tt_93, tt_99, tt_123, cfg0, take_rest, ibeq_dec, V.rn, rns, qn, setPs, rnOs, Ob.rn, gl0, glV, List.map, V.st, List.set_cons_zero, List.size_toArray, Tryd.f72, dc, List.replicate, hx]) (by first | rfl | simp [bel_dc, dc, List.replicate, hx]) (by first | rfl | simp [bel_dc, dc, List.replicate, hx])
theorem g80_7 (a C B A n : Nat) (hA : A < 100) (hB : B < 100) (hC : C < 100) (ha : a < 10) (hn : n = a * 1000000 + C * 10000 + B * 100 + A) : GCall Tryd.prog 72 [.buf 0 0 1 7 1, .int .u64 n] [.cells 0 z24] (.tup []) [.cells 0 ([.int .u8 0, dc a, dc (C / 10), dc (C % 10), dc (B / 10), dc (B % 10), dc (A / 10), dc (A % 10)] ++ List.replicate 16 (.int .u8 0))] := by
  have hn9 : n < 1000000000 := by omega
  obtain ⟨y, hy⟩ : ∃ y, y = B * 100 + A := ⟨_, rfl⟩
  obtain ⟨x, hx⟩ : ∃ x, x = a * 100 + C := ⟨_, rfl⟩
  have r1 : IntKind.u32.wrap ((n : Nat) : Int) = ((n : Nat) : Int) := by exact u32_id (by omega)
  have r2 : ((n : Nat) : Int).tmod 10000 = ((y : Nat) : Int) := by rw [Int.tmod_eq_emod_of_nonneg (by omega)]; omega
  have r3 : ((n : Nat) : Int).tdiv 10000 = ((x : Nat) : Int) := by rw [Int.tdiv_eq_ediv_of_nonneg (by omega)]; omega
  have r4 : ((y : Nat) : Int).tdiv 100 = ((B : Nat) : Int) := by rw [Int.tdiv_eq_ediv_of_nonneg (by omega)]; omega
  have r5 : ((y : Nat) : Int).tmod 100 = ((A : Nat) : Int) := by rw [Int.tmod_eq_emod_of_nonneg (by omega)]; omega
  have r6 : IntKind.u32.wrap ((x : Nat) : Int) = ((x : Nat) : Int) := by exact u32_id (by omega)
  have r7 : IntKind.u32.wrap ((y : Nat) : Int) = ((y : Nat) : Int) := by exact u32_id (by omega)
  have wA : IntKind.u32.wrap ((A : Nat) : Int) = ((A : Nat) : Int) := by exact u32_id (by omega)
  have wB : IntKind.u32.wrap ((B : Nat) : Int) = ((B : Nat) : Int) := by exact u32_id (by omega)
  have r8 : ((x : Nat) : Int).tmod 100 = ((C : Nat) : Int) := by rw [Int.tmod_eq_emod_of_nonneg (by omega)]; omega
  have r9 : ((x : Nat) : Int).tdiv 100 = ((a : Nat) : Int) := by rw [Int.tdiv_eq_ediv_of_nonneg (by omega)]; omega
  have wC : IntKind.u32.wrap ((C : Nat) : Int) = ((C : Nat) : Int) := by exact u32_id (by omega)
  have wa : IntKind.u32.wrap ((a : Nat) : Int) = ((a : Nat) : Int) := by exact u32_id (by omega)
  unfold z24
  simp only [List.replicate]
  refine GC.walk tok mixed cfg0 Tryd.func72 rfl Tryd.call72 ?_; simp (maxSteps := 2000000) -implicitDefEqProofs +contextual (disch := first | assumption | omega | decide +kernel) only [push_cast, ↓capI, br2_true, br2_false, frk_tt, frk_tf, frk_f, frkD_tt, frkD_tf, frkD_f, pk2_true, pk2_false, imp_true, seval, Nat.reduceLeDiff, Nat.reduceEqDiff, reduceCtorEq, ↓reduceIte, cfg0, take_rest, ibeq_dec, V.rn, rns, qn, setPs, rnOs, Ob.rn, gl0, glV, List.map, V.st, List.set_cons_zero, List.size_toArray, Tryd.ntmps72]
  refine T.lp tok mixed cfg0 (fun (j : Nat) => kp 1 (sv (.int .u64 n) (dd 2 (sv (.int .i64 7) (dd 162 (nl)))))) (fun H0 (j : Nat) => [.cells 0 z24]) (fun (j : Nat) => j = 0) (fun (j : Nat) => 0) (0) ?_ ?_ ?_
  · rfl
  · unfold z24
    simp only [List.replicate]
    exact Gn.canon (J := []) (by first | rfl | (simp [List.append_nil]; done) | (simp [List.append_nil]; rfl)) (by simp [wk, putT, kp, dd, sv, nl]) (by simp [List.length_append]) (by simp [bel_dc, kp, dd, sv, nl]) (by simp [bel_dc])
  rintro j rfl
  unfold z24
  simp only [List.replicate]
  simp (maxSteps := 2000000) -implicitDefEqProofs +contextual (disch := first | assumption | omega | decide +kernel) only [push_cast, ↓capI, br2_true, br2_false, frk_tt, frk_tf, frk_f, frkD_tt, frkD_tf, frkD_f, pk2_true, pk2_false, imp_true, seval, Nat.reduceLeDiff, Nat.reduceEqDiff, reduceCtorEq, ↓reduceIte, cfg0, take_rest, ibeq_dec, V.rn, rns, qn, setPs, rnOs, Ob.rn, gl0, glV, List.map, V.st, List.set_cons_zero, List.size_toArray, r1, r2, r3, r4, r5, r6, r7, wA, wB, r8, r9, wC, wa, u32_two, u32_one, nat_two, nat_one, u32_48, u8_48, bigA, bigB, bigL]
  refine endG.normal ([]) (by first | rfl | simp [bel_dc, fzs_ok, getO, setO, fzs, fz, fzH, Nat.beq, tt_3, tt_4, tt_5, tt_9, tt_91, tt_112, tt_115, tt_117, tt_133, tt_111, tt_124, tt_2, tt_93, tt_99, tt_123, cfg0, take_rest, ibeq_dec, V.rn, rns, qn, setPs, rnOs, Ob.rn, gl0, glV, List.map, V.st, List.set_cons_zero, List.size_toArray, dc, List.replicate, hx]) (by simp) (by simp [bel_dc, fzs_ok, imp, lenOK_iff, List.take_of_length_le, evRes, getT, getO, setO, fzs, fz, fzH, Nat.beq, retV, Res.then, ldT, ldR, mkV, getV, tt_3, tt_4, tt_5, tt_9, tt_91, tt_112, tt_115, tt_117, tt_133, tt_111, tt_124, tt_2, tt_93, tt_99, tt_123, cfg0, take_rest, ibeq_dec, V.rn, rns, qn, setPs, rnOs, Ob.rn, gl0, glV, List.map, V.st, List.set_cons_zero, List.size_toArray, Tryd.f72, dc, List.replicate, hx]) (by first | rfl | simp [bel_dc, dc, List.replicate, hx]) (by first | rfl | simp [bel_dc, dc, List.replicate, hx])
theorem g80_8 (D C B A n : Nat) (hA : A < 100) (hB : B < 100) (hC : C < 100) (hD : D < 100) (hn : n = D * 1000000 + C * 10000 + B * 100 + A) : GCall Tryd.prog 72 [.buf 0 0 1 8 1, .int .u64 n] [.cells 0 z24] (.tup []) [.cells 0 ([.int .u8 0, dc (D / 10), dc (D % 10), dc (C / 10), dc (C % 10), dc (B / 10), dc (B % 10), dc (A / 10), dc (A % 10)] ++ List.replicate 15 (.int .u8 0))] := by
  have hn9 : n < 1000000000 := by omega
  obtain ⟨q, hq⟩ : ∃ q, q = n % 100000000 := ⟨_, rfl⟩
  have hq2 : q = D * 1000000 + C * 10000 + B * 100 + A := by omega
  obtain ⟨x, hx⟩ : ∃ x, x = D * 100 + C := ⟨_, rfl⟩
  obtain ⟨y, hy⟩ : ∃ y, y = B * 100 + A := ⟨_, rfl⟩
  have r1 : ((n : Nat) : Int).tmod 100000000 = ((q : Nat) : Int) := by rw [Int.tmod_eq_emod_of_nonneg (by omega)]; omega
  have r2 : ((n : Nat) : Int).tdiv 100000000 = ((0 : Nat) : Int) := by rw [Int.tdiv_eq_ediv_of_nonneg (by omega)]; omega
  have r3 : IntKind.u32.wrap ((q : Nat) : Int) = ((q : Nat) : Int) := by exact u32_id (by omega)
  have r4 : ((q : Nat) : Int).tdiv 10000 = ((x : Nat) : Int) := by rw [Int.tdiv_eq_ediv_of_nonneg (by omega)]; omega
  have r5 : ((q : Nat) : Int).tmod 10000 = ((y : Nat) : Int) := by rw [Int.tmod_eq_emod_of_nonneg (by omega)]; omega
  have r6 : ((y : Nat) : Int).tdiv 100 = ((B : Nat) : Int) := by rw [Int.tdiv_eq_ediv_of_nonneg (by omega)]; omega
  have r7 : ((y : Nat) : Int).tmod 100 = ((A : Nat) : Int) := by rw [Int.tmod_eq_emod_of_nonneg (by omega)]; omega
  have r8 : ((x : Nat) : Int).tdiv 100 = ((D : Nat) : Int) := by rw [Int.tdiv_eq_ediv_of_nonneg (by omega)]; omega
  have r9 : ((x : Nat) : Int).tmod 100 = ((C : Nat) : Int) := by rw [Int.tmod_eq_emod_of_nonneg (by omega)]; omega
  have r10 : IntKind.u32.wrap ((x : Nat) : Int) = ((x : Nat) : Int) := by exact u32_id (by omega)
  have r11 : IntKind.u32.wrap ((y : Nat) : Int) = ((y : Nat) : Int) := by exact u32_id (by omega)
  have wA : IntKind.u32.wrap ((A : Nat) : Int) = ((A : Nat) : Int) := by exact u32_id (by omega)
  have wB : IntKind.u32.wrap ((B : Nat) : Int) = ((B : Nat) : Int) := by exact u32_id (by omega)
  have wC : IntKind.u32.wrap ((C : Nat) : Int) = ((C : Nat) : Int) := by exact u32_id (by omega)
  have wD : IntKind.u32.wrap ((D : Nat) : Int) = ((D : Nat) : Int) := by exact u32_id (by omega)
  unfold z24
  simp only [List.replicate]
  refine GC.walk tok mixed cfg0 Tryd.func72 rfl Tryd.call72 ?_; simp (maxSteps := 2000000) -implicitDefEqProofs +contextual (disch := first | assumption | omega | decide +kernel) only [push_cast, ↓capI, br2_true, br2_false, frk_tt, frk_tf, frk_f, frkD_tt, frkD_tf, frkD_f, pk2_true, pk2_false, imp_true, seval, Nat.reduceLeDiff, Nat.reduceEqDiff, reduceCtorEq, ↓reduceIte, cfg0, take_rest, ibeq_dec, V.rn, rns, qn, setPs, rnOs, Ob.rn, gl0, glV, List.map, V.st, List.set_cons_zero, List.size_toArray, Tryd.ntmps72]
  refine T.lp tok mixed cfg0 (fun (j : Nat) => kp 1 (sv (.int .u64 (if j = 1 then ((0 : Nat) : Int) else ((n : Nat) : Int))) (dd 2 (sv (.int .i64 (if j = 1 then 0 else 8)) (dd 162 (nl)))))) (fun H0 (j : Nat) => [.cells 0 (if j = 1 then [.int .u8 0, dc (D / 10), dc (D % 10), dc (C / 10), dc (C % 10), dc (B / 10), dc (B % 10), dc (A / 10), dc (A % 10)] ++ List.replicate 15 (.int .u8 0) else z24)]) (fun (j : Nat) => j ≤ 1) (fun (j : Nat) => 1 - j) (0) ?_ ?_ ?_
  · exact Nat.zero_le _
  · unfold z24
    simp only [List.replicate, Nat.zero_ne_one, if_false]
    exact Gn.canon (J := []) (by first | rfl | (simp [List.append_nil]; done) | (simp [List.append_nil]; rfl)) (by simp [wk, putT, kp, dd, sv, nl]) (by simp [List.length_append]) (by simp [bel_dc, kp, dd, sv, nl]) (by simp [bel_dc])
  intro j hj
  rcases (by omega : j = 0 ∨ j = 1) with rfl | rfl
  · unfold z24
    simp only [List.replicate, Nat.zero_ne_one, if_false]
    simp (maxSteps := 2000000) -implicitDefEqProofs +contextual (disch := first | assumption | omega | decide +kernel) only [push_cast, ↓capI, br2_true, br2_false, frk_tt, frk_tf, frk_f, frkD_tt, frkD_tf, frkD_f, pk2_true, pk2_false, imp_true, seval, Nat.reduceLeDiff, Nat.reduceEqDiff, reduceCtorEq, ↓reduceIte, cfg0, take_rest, ibeq_dec, V.rn, rns, qn, setPs, rnOs, Ob.rn, gl0, glV, List.map, V.st, List.set_cons_zero, List.size_toArray, r1, r2, r3, r4, r5, r6, r7, r8, r9, r10, r11, wA, wB, wC, wD, u32_two, u32_one, nat_two, nat_one, u32_48, u8_48, bigA, bigB, bigL]
    refine ⟨1, by omega, by (try simp only); omega, ?_⟩; exact Gn.canon (by first | rfl | (simp [List.append_nil, dc, List.replicate, hx]; rfl)) (by simp [wk, dc, List.replicate, hx]) (by simp [List.length_append]) (by simp [bel_dc]) (by simp [bel_dc])
  · simp only [List.replicate, if_true, List.cons_append, List.nil_append]
    simp (maxSteps := 2000000) -implicitDefEqProofs +contextual (disch := first | assumption | omega | decide +kernel) only [push_cast, ↓capI, br2_true, br2_false, frk_tt, frk_tf, frk_f, frkD_tt, frkD_tf, frkD_f, pk2_true, pk2_false, imp_true, seval, Nat.reduceLeDiff, Nat.reduceEqDiff, reduceCtorEq, ↓reduceIte, cfg0, take_rest, ibeq_dec, V.rn, rns, qn, setPs, rnOs, Ob.rn, gl0, glV, List.map, V.st, List.set_cons_zero, List.size_toArray, r1, r2, r3, r4, r5, r6, r7, r8, r9, r10, r11, wA, wB, wC, wD, u32_two, u32_one, nat_two, nat_one, u32_48, u8_48, bigA, bigB, bigL]
    refine endG.normal ([]) (by first | rfl | simp [bel_dc, fzs_ok, getO, setO, fzs, fz, fzH, Nat.beq, tt_3, tt_4, tt_5, tt_9, tt_91, tt_112, tt_115, tt_117, tt_133, tt_111, tt_124, tt_2, tt_93, tt_99, tt_123, cfg0, take_rest, ibeq_dec, V.rn, rns, qn, setPs, rnOs, Ob.rn, gl0, glV, List.map, V.st, List.set_cons_zero, List.size_toArray, dc, List.replicate, hx]) (by simp) (by simp [bel_dc, fzs_ok, imp, lenOK_iff, List.take_of_length_le, evRes, getT, getO, setO, fzs, fz, fzH, Nat.beq, retV, Res.then, ldT, ldR, mkV, getV, tt_3, tt_4, tt_5, tt_9, tt_91, tt_112, tt_115, tt_117, tt_133, tt_111, tt_124, tt_2, tt_93, tt_99, tt_123, cfg0, take_rest, ibeq_dec, V.rn, rns, qn, setPs, rnOs, Ob.rn, gl0, glV, List.map, V.st, List.set_cons_zero, List.size_toArray, Tryd.f72, dc, List.replicate, hx]) (by first | rfl | simp [bel_dc, dc, List.replicate, hx]) (by first | rfl | simp [bel_dc, dc, List.replicate, hx])
theorem g80_9 (a D C B A n : Nat) (hA : A < 100) (hB : B < 100) (hC : C < 100) (hD : D < 100) (ha : a < 10) (hn : n = a * 100000000 + D * 1000000 + C * 10000 + B * 100 + A) : GCall Tryd.prog 72 [.buf 0 0 1 9 1, .int .u64 n] [.cells 0 z24] (.tup []) [.cells 0 ([.int .u8 0, dc a, dc (D / 10), dc (D % 10), dc (C / 10), dc (C % 10), dc (B / 10), dc (B % 10), dc (A / 10), dc (A % 10)] ++ List.replicate 14 (.int .u8 0))] := by
  have hn9 : n < 1000000000 := by omega
  obtain ⟨q, hq⟩ : ∃ q, q = n % 100000000 := ⟨_, rfl⟩
  have hq2 : q = D * 1000000 + C * 10000 + B * 100 + A := by omega
  obtain ⟨x, hx⟩ : ∃ x, x = D * 100 + C := ⟨_, rfl⟩
  obtain ⟨y, hy⟩ : ∃ y, y = B * 100 + A := ⟨_, rfl⟩
  have r1 : ((n : Nat) : Int).tmod 100000000 = ((q : Nat) : Int) := by rw [Int.tmod_eq_emod_of_nonneg (by omega)]; omega
  have r2 : ((n : Nat) : Int).tdiv 100000000 = ((a : Nat) : Int) := by rw [Int.tdiv_eq_ediv_of_nonneg (by omega)]; omega
  have r3 : IntKind.u32.wrap ((q : Nat) : Int) = ((q : Nat) : Int) := by exact u32_id (by omega)
  have r4 : ((q : Nat) : Int).tdiv 10000 = ((x : Nat) : Int) := by rw [Int.tdiv_eq_ediv_of_nonneg (by omega)]; omega
  have r5 : ((q : Nat) : Int).tmod 10000 = ((y : Nat) : Int) := by rw [Int.tmod_eq_emod_of_nonneg (by omega)]; omega
  have r6 : ((y : Nat) : Int).tdiv 100 = ((B : Nat) : Int) := by rw [Int.tdiv_eq_ediv_of_nonneg (by omega)]; omega
  have r7 : ((y : Nat) : Int).tmod 100 = ((A : Nat) : Int) := by rw [Int.tmod_eq_emod_of_nonneg (by omega)]; omega
  have r8 : ((x : Nat) : Int).tdiv 100 = ((D : Nat) : Int) := by rw [Int.tdiv_eq_ediv_of_nonneg (by omega)]; omega
  have r9 : ((x : Nat) : Int).tmod 100 = ((C : Nat) : Int) := by rw [Int.tmod_eq_emod_of_nonneg (by omega)]; omega
  have r10 : IntKind.u32.wrap ((x : Nat) : Int) = ((x : Nat) : Int) := by exact u32_id (by omega)
  have r11 : IntKind.u32.wrap ((y : Nat) : Int) = ((y : Nat) : Int) := by exact u32_id (by omega)
  have wA : IntKind.u32.wrap ((A : Nat) : Int) = ((A : Nat) : Int) := by exact u32_id (by omega)
  have wB : IntKind.u32.wrap ((B : Nat) : Int) = ((B : Nat) : Int) := by exact u32_id (by omega)
  have wC : IntKind.u32.wrap ((C : Nat) : Int) = ((C : Nat) : Int) := by exact u32_id (by omega)
  have wD : IntKind.u32.wrap ((D : Nat) : Int) = ((D : Nat) : Int) := by exact u32_id (by omega)
  have wa : IntKind.u32.wrap ((a : Nat) : Int) = ((a : Nat) : Int) := by exact u32_id (by omega)
  have wa6 : IntKind.u64.wrap ((a : Nat) : Int) = ((a : Nat) : Int) := by exact IntWalk.u64_in _ ⟨by omega, by omega⟩
  unfold z24
  simp only [List.replicate]
  refine GC.walk tok mixed cfg0 Tryd.func72 rfl Tryd.call72 ?_; simp (maxSteps := 2000000) -implicitDefEqProofs +contextual (disch := first | assumption | omega | decide +kernel) only [push_cast, ↓capI, br2_true, br2_false, frk_tt, frk_tf, frk_f, frkD_tt, frkD_tf, frkD_f, pk2_true, pk2_false, imp_true, seval, Nat.reduceLeDiff, Nat.reduceEqDiff, reduceCtorEq, ↓reduceIte, cfg0, take_rest, ibeq_dec, V.rn, rns, qn, setPs, rnOs, Ob.rn, gl0, glV, List.map, V.st, List.set_cons_zero, List.size_toArray, Tryd.ntmps72]
  refine T.lp tok mixed cfg0 (fun (j : Nat) => kp 1 (sv (.int .u64 (if j = 1 then ((a : Nat) : Int) else ((n : Nat) : Int))) (dd 2 (sv (.int .i64 (if j = 1 then 1 else 9)) (dd 162 (nl)))))) (fun H0 (j : Nat) => [.cells 0 (if j = 1 then [.int .u8 0, .int .u8 0, dc (D / 10), dc (D % 10), dc (C / 10), dc (C % 10), dc (B / 10), dc (B % 10), dc (A / 10), dc (A % 10)] ++ List.replicate 14 (.int .u8 0) else z24)]) (fun (j : Nat) => j ≤ 1) (fun (j : Nat) => 1 - j) (0) ?_ ?_ ?_
  · exact Nat.zero_le _
  · unfold z24
    simp only [List.replicate, Nat.zero_ne_one, if_false]
    exact Gn.canon (J := []) (by first | rfl | (simp [List.append_nil]; done) | (simp [List.append_nil]; rfl)) (by simp [wk, putT, kp, dd, sv, nl]) (by simp [List.length_append]) (by simp [bel_dc, kp, dd, sv, nl]) (by simp [bel_dc])
  intro j hj
  rcases (by omega : j = 0 ∨ j = 1) with rfl | rfl
  · unfold z24
    simp only [List.replicate, Nat.zero_ne_one, if_false]
    simp (maxSteps := 2000000) -implicitDefEqProofs +contextual (disch := first | assumption | omega | decide +kernel) only [push_cast, ↓capI, br2_true, br2_false, frk_tt, frk_tf, frk_f, frkD_tt, frkD_tf, frkD_f, pk2_true, pk2_false, imp_true, seval, Nat.reduceLeDiff, Nat.reduceEqDiff, reduceCtorEq, ↓reduceIte, cfg0, take_rest, ibeq_dec, V.rn, rns, qn, setPs, rnOs, Ob.rn, gl0, glV, List.map, V.st, List.set_cons_zero, List.size_toArray, r1, r2, r3, r4, r5, r6, r7, r8, r9, r10, r11, wA, wB, wC, wD, wa, wa6, u32_two, u32_one, nat_two, nat_one, u32_48, u8_48, bigA, bigB, bigL]
    refine ⟨1, by omega, by (try simp only); omega, ?_⟩; exact Gn.canon (by first | rfl | (simp [List.append_nil, dc, List.replicate, hx]; rfl)) (by simp [wk, dc, List.replicate, hx]) (by simp [List.length_append]) (by simp [bel_dc]) (by simp [bel_dc])
  · simp only [List.replicate, if_true, List.cons_append, List.nil_append]
    simp (maxSteps := 2000000) -implicitDefEqProofs +contextual (disch := first | assumption | omega | decide +kernel) only [push_cast, ↓capI, br2_true, br2_false, frk_tt, frk_tf, frk_f, frkD_tt, frkD_tf, frkD_f, pk2_true, pk2_false, imp_true, seval, Nat.reduceLeDiff, Nat.reduceEqDiff, reduceCtorEq, ↓reduceIte, cfg0, take_rest, ibeq_dec, V.rn, rns, qn, setPs, rnOs, Ob.rn, gl0, glV, List.map, V.st, List.set_cons_zero, List.size_toArray, r1, r2, r3, r4, r5, r6, r7, r8, r9, r10, r11, wA, wB, wC, wD, wa, wa6, u32_two, u32_one, nat_two, nat_one, u32_48, u8_48, bigA, bigB, bigL]
    refine endG.normal ([]) (by first | rfl | simp [bel_dc, fzs_ok, getO, setO, fzs, fz, fzH, Nat.beq, tt_3, tt_4, tt_5, tt_9, tt_91, tt_112, tt_115, tt_117, tt_133, tt_111, tt_124, tt_2, tt_93, tt_99, tt_123, cfg0, take_rest, ibeq_dec, V.rn, rns, qn, setPs, rnOs, Ob.rn, gl0, glV, List.map, V.st, List.set_cons_zero, List.size_toArray, dc, List.replicate, hx]) (by simp) (by simp [bel_dc, fzs_ok, imp, lenOK_iff, List.take_of_length_le, evRes, getT, getO, setO, fzs, fz, fzH, Nat.beq, retV, Res.then, ldT, ldR, mkV, getV, tt_3, tt_4, tt_5, tt_9, tt_91, tt_112, tt_115, tt_117, tt_133, tt_111, tt_124, tt_2, tt_93, tt_99, tt_123, cfg0, take_rest, ibeq_dec, V.rn, rns, qn, setPs, rnOs, Ob.rn, gl0, glV, List.map, V.st, List.set_cons_zero, List.size_toArray, Tryd.f72, dc, List.replicate, hx]) (by first | rfl | simp [bel_dc, dc, List.replicate, hx]) (by first | rfl | simp [bel_dc, dc, List.replicate, hx])
end Go.Proofs.YtginpkchjeooeaaDoor

/- Integers of up to nine digits, written by the program: FormatInt. -/
set_option maxRecDepth 100000
set_option maxHeartbeats 4000000
set_option linter.all false
namespace Go.Proofs.YtginpkchjeooeaaDoor
open Go.Vm

theorem dgs_one {k n : Nat} (h : n < 10) : dgs (k + 1) n = [UInt8.ofNat (48 + n)] := by rw [dgs, if_pos h]
theorem dgs_step {k n : Nat} (h : 10 ≤ n) : dgs (k + 1) n = dgs k (n / 10) ++ [UInt8.ofNat (48 + n % 10)] := by rw [dgs, if_neg (by omega)]
theorem t48a {m : Nat} : ((48 : Int) + (m : Int) / 10).toNat = 48 + m / 10 := by omega
theorem t48b {m : Nat} : ((48 : Int) + (m : Int) % 10).toNat = 48 + m % 10 := by omega
theorem t48c {m : Nat} : ((48 : Int) + (m : Int)).toNat = 48 + m := by omega
theorem f65_3 (n : Nat) (h1 : 10 ^ 2 ≤ n) (h2 : n < 10 ^ 3) : PC Tryd.prog 65 [.int .i64 n, .int .i64 10] (.str (dgs 9 n)) := by
  have hd := numDigits n 3 (by decide) h1 h2
  simp only [Nat.reducePow] at h1 h2
  obtain ⟨A, hA⟩ : ∃ x, x = n / 1 % 100 := ⟨_, rfl⟩
  obtain ⟨a, ha⟩ : ∃ x, x = n / 100 := ⟨_, rfl⟩
  have hs : dgs 9 n = [UInt8.ofNat (48 + a), UInt8.ofNat (48 + (A / 10)), UInt8.ofNat (48 + (A % 10))] := by
    rw [dgs_step (by omega), dgs_step (by omega), dgs_one (by omega)]
    have e0 : n % 10 = A % 10 := by omega
    have e1 : n / 10 % 10 = A / 10 := by omega
    have e2 : n / 10 / 10 = a := by omega
    rw [e2, e1, e0]
    rfl
  have hg := g80_3 a A n (by omega) (by omega) (by omega)
  have hi : ¬ (n : Int) < 0 := by omega
  have hc : ¬ (n : Int) < 100 := by omega
  clear hA ha
  rw [hs]
  clear hs
  refine PC.walk tok mixed cfg0 Tryd.func65 rfl Tryd.call65 (by simp ) (by first | rfl | simp ) ?_; simp (maxSteps := 2000000) -implicitDefEqProofs +contextual (disch := first | assumption | omega | decide +kernel) only [push_cast, ↓capI, br2_true, br2_false, frk_tt, frk_tf, frk_f, frkD_tt, frkD_tf, frkD_f, pk2_true, pk2_false, imp_true, seval, Nat.reduceLeDiff, Nat.reduceEqDiff, reduceCtorEq, ↓reduceIte, cfg0, take_rest, ibeq_dec, V.rn, rns, qn, setPs, rnOs, Ob.rn, gl0, glV, List.map, V.st, List.set_cons_zero, List.size_toArray, Tryd.ntmps65]
  (try simp (maxSteps := 2000000) -implicitDefEqProofs +contextual (disch := first | assumption | omega | decide +kernel) only [push_cast, ↓capI, br2_true, br2_false, frk_tt, frk_tf, frk_f, frkD_tt, frkD_tf, frkD_f, pk2_true, pk2_false, imp_true, seval, Nat.reduceLeDiff, Nat.reduceEqDiff, reduceCtorEq, ↓reduceIte, cfg0, take_rest, ibeq_dec, V.rn, rns, qn, setPs, rnOs, Ob.rn, gl0, glV, List.map, V.st, List.set_cons_zero, List.size_toArray, hc])
  refine callO.pc hd ?_
  simp (maxSteps := 2000000) -implicitDefEqProofs +contextual (disch := first | assumption | omega | decide +kernel) only [push_cast, ↓capI, br2_true, br2_false, frk_tt, frk_tf, frk_f, frkD_tt, frkD_tf, frkD_f, pk2_true, pk2_false, imp_true, seval, Nat.reduceLeDiff, Nat.reduceEqDiff, reduceCtorEq, ↓reduceIte, cfg0, take_rest, ibeq_dec, V.rn, rns, qn, setPs, rnOs, Ob.rn, gl0, glV, List.map, V.st, List.set_cons_zero, List.size_toArray, hi]
  refine callO.part0 [0] hg (by decide) rfl rfl ⟨by rfl, by simp, trivial⟩ ?_
  unfold dc
  simp only [List.replicate, List.append_eq, List.cons_append, List.nil_append]
  simp (maxSteps := 2000000) -implicitDefEqProofs +contextual (disch := first | assumption | omega | decide +kernel) only [push_cast, ↓capI, br2_true, br2_false, frk_tt, frk_tf, frk_f, frkD_tt, frkD_tf, frkD_f, pk2_true, pk2_false, imp_true, seval, Nat.reduceLeDiff, Nat.reduceEqDiff, reduceCtorEq, ↓reduceIte, cfg0, take_rest, ibeq_dec, V.rn, rns, qn, setPs, rnOs, Ob.rn, gl0, glV, List.map, V.st, List.set_cons_zero, List.size_toArray, hi]
  refine endK.ret ?_ (by first | rfl | simp ); simp [evRes, getT, retV, Tryd.f65,  t48a, t48b, t48c]
theorem f65_4 (n : Nat) (h1 : 10 ^ 3 ≤ n) (h2 : n < 10 ^ 4) : PC Tryd.prog 65 [.int .i64 n, .int .i64 10] (.str (dgs 9 n)) := by
  have hd := numDigits n 4 (by decide) h1 h2
  simp only [Nat.reducePow] at h1 h2
  obtain ⟨A, hA⟩ : ∃ x, x = n / 1 % 100 := ⟨_, rfl⟩
  obtain ⟨B, hB⟩ : ∃ x, x = n / 100 % 100 := ⟨_, rfl⟩
  have hs : dgs 9 n = [UInt8.ofNat (48 + (B / 10)), UInt8.ofNat (48 + (B % 10)), UInt8.ofNat (48 + (A / 10)), UInt8.ofNat (48 + (A % 10))] := by
    rw [dgs_step (by omega), dgs_step (by omega), dgs_step (by omega), dgs_one (by omega)]
    have e0 : n % 10 = A % 10 := by omega
    have e1 : n / 10 % 10 = A / 10 := by omega
    have e2 : n / 10 / 10 % 10 = B % 10 := by omega
    have e3 : n / 10 / 10 / 10 = B / 10 := by omega
    rw [e3, e2, e1, e0]
    rfl
  have hg := g80_4 B A n (by omega) (by omega) (by omega)
  have hi : ¬ (n : Int) < 0 := by omega
  have hc : ¬ (n : Int) < 100 := by omega
  clear hA hB
  rw [hs]
  clear hs
  refine PC.walk tok mixed cfg0 Tryd.func65 rfl Tryd.call65 (by simp ) (by first | rfl | simp ) ?_; simp (maxSteps := 2000000) -implicitDefEqProofs +contextual (disch := first | assumption | omega | decide +kernel) only [push_cast, ↓capI, br2_true, br2_false, frk_tt, frk_tf, frk_f, frkD_tt, frkD_tf, frkD_f, pk2_true, pk2_false, imp_true, seval, Nat.reduceLeDiff, Nat.reduceEqDiff, reduceCtorEq, ↓reduceIte, cfg0, take_rest, ibeq_dec, V.rn, rns, qn, setPs, rnOs, Ob.rn, gl0, glV, List.map, V.st, List.set_cons_zero, List.size_toArray, Tryd.ntmps65]
  (try simp (maxSteps := 2000000) -implicitDefEqProofs +contextual (disch := first | assumption | omega | decide +kernel) only [push_cast, ↓capI, br2_true, br2_false, frk_tt, frk_tf, frk_f, frkD_tt, frkD_tf, frkD_f, pk2_true, pk2_false, imp_true, seval, Nat.reduceLeDiff, Nat.reduceEqDiff, reduceCtorEq, ↓reduceIte, cfg0, take_rest, ibeq_dec, V.rn, rns, qn, setPs, rnOs, Ob.rn, gl0, glV, List.map, V.st, List.set_cons_zero, List.size_toArray, hc])
  refine callO.pc hd ?_
  simp (maxSteps := 2000000) -implicitDefEqProofs +contextual (disch := first | assumption | omega | decide +kernel) only [push_cast, ↓capI, br2_true, br2_false, frk_tt, frk_tf, frk_f, frkD_tt, frkD_tf, frkD_f, pk2_true, pk2_false, imp_true, seval, Nat.reduceLeDiff, Nat.reduceEqDiff, reduceCtorEq, ↓reduceIte, cfg0, take_rest, ibeq_dec, V.rn, rns, qn, setPs, rnOs, Ob.rn, gl0, glV, List.map, V.st, List.set_cons_zero, List.size_toArray, hi]
  refine callO.part0 [0] hg (by decide) rfl rfl ⟨by rfl, by simp, trivial⟩ ?_
  unfold dc
  simp only [List.replicate, List.append_eq, List.cons_append, List.nil_append]
  simp (maxSteps := 2000000) -implicitDefEqProofs +contextual (disch := first | assumption | omega | decide +kernel) only [push_cast, ↓capI, br2_true, br2_false, frk_tt, frk_tf, frk_f, frkD_tt, frkD_tf, frkD_f, pk2_true, pk2_false, imp_true, seval, Nat.reduceLeDiff, Nat.reduceEqDiff, reduceCtorEq, ↓reduceIte, cfg0, take_rest, ibeq_dec, V.rn, rns, qn, setPs, rnOs, Ob.rn, gl0, glV, List.map, V.st, List.set_cons_zero, List.size_toArray, hi]
  refine endK.ret ?_ (by first | rfl | simp ); simp [evRes, getT, retV, Tryd.f65,  t48a, t48b, t48c]
theorem f65_5 (n : Nat) (h1 : 10 ^ 4 ≤ n) (h2 : n < 10 ^ 5) : PC Tryd.prog 65 [.int .i64 n, .int .i64 10] (.str (dgs 9 n)) := by
  have hd := numDigits n 5 (by decide) h1 h2
  simp only [Nat.reducePow] at h1 h2
  obtain ⟨A, hA⟩ : ∃ x, x = n / 1 % 100 := ⟨_, rfl⟩
  obtain ⟨B, hB⟩ : ∃ x, x = n / 100 % 100 := ⟨_, rfl⟩
  obtain ⟨a, ha⟩ : ∃ x, x = n / 10000 := ⟨_, rfl⟩
  have hs : dgs 9 n = [UInt8.ofNat (48 + a), UInt8.ofNat (48 + (B / 10)), UInt8.ofNat (48 + (B % 10)), UInt8.ofNat (48 + (A / 10)), UInt8.ofNat (48 + (A % 10))] := by
    rw [dgs_step (by omega), dgs_step (by omega), dgs_step (by omega), dgs_step (by omega), dgs_one (by omega)]
    have e0 : n % 10 = A % 10 := by omega
    have e1 : n / 10 % 10 = A / 10 := by omega
    have e2 : n / 10 / 10 % 10 = B % 10 := by omega
    have e3 : n / 10 / 10 / 10 % 10 = B / 10 := by omega
    have e4 : n / 10 / 10 / 10 / 10 = a := by omega
    rw [e4, e3, e2, e1, e0]
    rfl
  have hg := g80_5 a B A n (by omega) (by omega) (by omega) (by omega)
  have hi : ¬ (n : Int) < 0 := by omega
  have hc : ¬ (n : Int) < 100 := by omega
  clear hA hB ha
  rw [hs]
  clear hs
  refine PC.walk tok mixed cfg0 Tryd.func65 rfl Tryd.call65 (by simp ) (by first | rfl | simp ) ?_; simp (maxSteps := 2000000) -implicitDefEqProofs +contextual (disch := first | assumption | omega | decide +kernel) only [push_cast, ↓capI, br2_true, br2_false, frk_tt, frk_tf, frk_f, frkD_tt, frkD_tf, frkD_f, pk2_true, pk2_false, imp_true, seval, Nat.reduceLeDiff, Nat.reduceEqDiff, reduceCtorEq, ↓reduceIte, cfg0, take_rest, ibeq_dec, V.rn, rns, qn, setPs, rnOs, Ob.rn, gl0, glV, List.map, V.st, List.set_cons_zero, List.size_toArray, Tryd.ntmps65]
  (try simp (maxSteps := 2000000) -implicitDefEqProofs +contextual (disch := first | assumption | omega | decide +kernel) only [push_cast, ↓capI, br2_true, br2_false, frk_tt, frk_tf, frk_f, frkD_tt, frkD_tf, frkD_f, pk2_true, pk2_false, imp_true, seval, Nat.reduceLeDiff, Nat.reduceEqDiff, reduceCtorEq, ↓reduceIte, cfg0, take_rest, ibeq_dec, V.rn, rns, qn, setPs, rnOs, Ob.rn, gl0, glV, List.map, V.st, List.set_cons_zero, List.size_toArray, hc])
  refine callO.pc hd ?_
  simp (maxSteps := 2000000) -implicitDefEqProofs +contextual (disch := first | assumption | omega | decide +kernel) only [push_cast, ↓capI, br2_true, br2_false, frk_tt, frk_tf, frk_f, frkD_tt, frkD_tf, frkD_f, pk2_true, pk2_false, imp_true, seval, Nat.reduceLeDiff, Nat.reduceEqDiff, reduceCtorEq, ↓reduceIte, cfg0, take_rest, ibeq_dec, V.rn, rns, qn, setPs, rnOs, Ob.rn, gl0, glV, List.map, V.st, List.set_cons_zero, List.size_toArray, hi]
  refine callO.part0 [0] hg (by decide) rfl rfl ⟨by rfl, by simp, trivial⟩ ?_
  unfold dc
  simp only [List.replicate, List.append_eq, List.cons_append, List.nil_append]
  simp (maxSteps := 2000000) -implicitDefEqProofs +contextual (disch := first | assumption | omega | decide +kernel) only [push_cast, ↓capI, br2_true, br2_false, frk_tt, frk_tf, frk_f, frkD_tt, frkD_tf, frkD_f, pk2_true, pk2_false, imp_true, seval, Nat.reduceLeDiff, Nat.reduceEqDiff, reduceCtorEq, ↓reduceIte, cfg0, take_rest, ibeq_dec, V.rn, rns, qn, setPs, rnOs, Ob.rn, gl0, glV, List.map, V.st, List.set_cons_zero, List.size_toArray, hi]
  refine endK.ret ?_ (by first | rfl | simp ); simp [evRes, getT, retV, Tryd.f65,  t48a, t48b, t48c]
theorem f65_6 (n : Nat) (h1 : 10 ^ 5 ≤ n) (h2 : n < 10 ^ 6) : PC Tryd.prog 65 [.int .i64 n, .int .i64 10] (.str (dgs 9 n)) := by
  have hd := numDigits n 6 (by decide) h1 h2
  simp only [Nat.reducePow] at h1 h2
  obtain ⟨A, hA⟩ : ∃ x, x = n / 1 % 100 := ⟨_, rfl⟩
  obtain ⟨B, hB⟩ : ∃ x, x = n / 100 % 100 := ⟨_, rfl⟩
  obtain ⟨C, hC⟩ : ∃ x, x = n / 10000 % 100 := ⟨_, rfl⟩
  have hs : dgs 9 n = [UInt8.ofNat (48 + (C / 10)), UInt8.ofNat (48 + (C % 10)), UInt8.ofNat (48 + (B / 10)), UInt8.ofNat (48 + (B % 10)), UInt8.ofNat (48 + (A / 10)), UInt8.ofNat (48 + (A % 10))] := by
    rw [dgs_step (by omega), dgs_step (by omega), dgs_step (by omega), dgs_step (by omega), dgs_step (by omega), dgs_one (by omega)]
    have e0 : n % 10 = A % 10 := by omega
    have e1 : n / 10 % 10 = A / 10 := by omega
    have e2 : n / 10 / 10 % 10 = B % 10 := by omega
    have e3 : n / 10 / 10 / 10 % 10 = B / 10 := by omega
    have e4 : n / 10 / 10 / 10 / 10 % 10 = C % 10 := by omega
    have e5 : n / 10 / 10 / 10 / 10 / 10 = C / 10 := by omega
    rw [e5, e4, e3, e2, e1, e0]
    rfl
  have hg := g80_6 C B A n (by omega) (by omega) (by omega) (by omega)
  have hi : ¬ (n : Int) < 0 := by omega
  have hc : ¬ (n : Int) < 100 := by omega
  clear hA hB hC
  rw [hs]
  clear hs
  refine PC.walk tok mixed cfg0 Tryd.func65 rfl Tryd.call65 (by simp ) (by first | rfl | simp ) ?_; simp (maxSteps := 2000000) -implicitDefEqProofs +contextual (disch := first | assumption | omega | decide +kernel) only [push_cast, ↓capI, br2_true, br2_false, frk_tt, frk_tf, frk_f, frkD_tt, frkD_tf, frkD_f, pk2_true, pk2_false, imp_true, seval, Nat.reduceLeDiff, Nat.reduceEqDiff, reduceCtorEq, ↓reduceIte, cfg0, take_rest, ibeq_dec, V.rn, rns, qn, setPs, rnOs, Ob.rn, gl0, glV, List.map, V.st, List.set_cons_zero, List.size_toArray, Tryd.ntmps65]
  (try simp (maxSteps := 2000000) -implicitDefEqProofs +contextual (disch := first | assumption | omega | decide +kernel) only [push_cast, ↓capI, br2_true, br2_false, frk_tt, frk_tf, frk_f, frkD_tt, frkD_tf, frkD_f, pk2_true, pk2_false, imp_true, seval, Nat.reduceLeDiff, Nat.reduceEqDiff, reduceCtorEq, ↓reduceIte, cfg0, take_rest, ibeq_dec, V.rn, rns, qn, setPs, rnOs, Ob.rn, gl0, glV, List.map, V.st, List.set_cons_zero, List.size_toArray, hc])
  refine callO.pc hd ?_
  simp (maxSteps := 2000000) -implicitDefEqProofs +contextual (disch := first | assumption | omega | decide +kernel) only [push_cast, ↓capI, br2_true, br2_false, frk_tt, frk_tf, frk_f, frkD_tt, frkD_tf, frkD_f, pk2_true, pk2_false, imp_true, seval, Nat.reduceLeDiff, Nat.reduceEqDiff, reduceCtorEq, ↓reduceIte, cfg0, take_rest, ibeq_dec, V.rn, rns, qn, setPs, rnOs, Ob.rn, gl0, glV, List.map, V.st, List.set_cons_zero, List.size_toArray, hi]
  refine callO.part0 [0] hg (by decide) rfl rfl ⟨by rfl, by simp, trivial⟩ ?_
  unfold dc
  simp only [List.replicate, List.append_eq, List.cons_append, List.nil_append]
  simp (maxSteps := 2000000) -implicitDefEqProofs +contextual (disch := first | assumption | omega | decide +kernel) only [push_cast, ↓capI, br2_true, br2_false, frk_tt, frk_tf, frk_f, frkD_tt, frkD_tf, frkD_f, pk2_true, pk2_false, imp_true, seval, Nat.reduceLeDiff, Nat.reduceEqDiff, reduceCtorEq, ↓reduceIte, cfg0, take_rest, ibeq_dec, V.rn, rns, qn, setPs, rnOs, Ob.rn, gl0, glV, List.map, V.st, List.set_cons_zero, List.size_toArray, hi]
  refine endK.ret ?_ (by first | rfl | simp ); simp [evRes, getT, retV, Tryd.f65,  t48a, t48b, t48c]
theorem f65_7 (n : Nat) (h1 : 10 ^ 6 ≤ n) (h2 : n < 10 ^ 7) : PC Tryd.prog 65 [.int .i64 n, .int .i64 10] (.str (dgs 9 n)) := by
  have hd := numDigits n 7 (by decide) h1 h2
  simp only [Nat.reducePow] at h1 h2
  obtain ⟨A, hA⟩ : ∃ x, x = n / 1 % 100 := ⟨_, rfl⟩
  obtain ⟨B, hB⟩ : ∃ x, x = n / 100 % 100 := ⟨_, rfl⟩
  obtain ⟨C, hC⟩ : ∃ x, x = n / 10000 % 100 := ⟨_, rfl⟩
  obtain ⟨a, ha⟩ : ∃ x, x = n / 1000000 := ⟨_, rfl⟩
  have hs : dgs 9 n = [UInt8.ofNat (48 + a), UInt8.ofNat (48 + (C / 10)), UInt8.ofNat (48 + (C % 10)), UInt8.ofNat (48 + (B / 10)), UInt8.ofNat (48 + (B % 10)), UInt8.ofNat (48 + (A / 10)), UInt8.ofNat (48 + (A % 10))] := by
    rw [dgs_step (by omega), dgs_step (by omega), dgs_step (by omega), dgs_step (by omega), dgs_step (by omega), dgs_step (by omega), dgs_one (by omega)]
    have e0 : n % 10 = A % 10 := by omega
    have e1 : n / 10 % 10 = A / 10 := by omega
    have e2 : n / 10 / 10 % 10 = B % 10 := by omega
    have e3 : n / 10 / 10 / 10 % 10 = B / 10 := by omega
    have e4 : n / 10 / 10 / 10 / 10 % 10 = C % 10 := by omega
    have e5 : n / 10 / 10 / 10 / 10 / 10 % 10 = C / 10 := by omega
    have e6 : n / 10 / 10 / 10 / 10 / 10 / 10 = a := by omega
    rw [e6, e5, e4, e3, e2, e1, e0]
    rfl
  have hg := g80_7 a C B A n (by omega) (by omega) (by omega) (by omega) (by omega)
  have hi : ¬ (n : Int) < 0 := by omega
  have hc : ¬ (n : Int) < 100 := by omega
  clear hA hB hC ha
  rw [hs]
  clear hs
  refine PC.walk tok mixed cfg0 Tryd.func65 rfl Tryd.call65 (by simp ) (by first | rfl | simp ) ?_; simp (maxSteps := 2000000) -implicitDefEqProofs +contextual (disch := first | assumption | omega | decide +kernel) only [push_cast, ↓capI, br2_true, br2_false, frk_tt, frk_tf, frk_f, frkD_tt, frkD_tf, frkD_f, pk2_true, pk2_false, imp_true, seval, Nat.reduceLeDiff, Nat.reduceEqDiff, reduceCtorEq, ↓reduceIte, cfg0, take_rest, ibeq_dec, V.rn, rns, qn, setPs, rnOs, Ob.rn, gl0, glV, List.map, V.st, List.set_cons_zero, List.size_toArray, Tryd.ntmps65]
  (try simp (maxSteps := 2000000) -implicitDefEqProofs +contextual (disch := first | assumption | omega | decide +kernel) only [push_cast, ↓capI, br2_true, br2_false, frk_tt, frk_tf, frk_f, frkD_tt, frkD_tf, frkD_f, pk2_true, pk2_false, imp_true, seval, Nat.reduceLeDiff, Nat.reduceEqDiff, reduceCtorEq, ↓reduceIte, cfg0, take_rest, ibeq_dec, V.rn, rns, qn, setPs, rnOs, Ob.rn, gl0, glV, List.map, V.st, List.set_cons_zero, List.size_toArray, hc])
  refine callO.pc hd ?_
  simp (maxSteps := 2000000) -implicitDefEqProofs +contextual (disch := first | assumption | omega | decide +kernel) only [push_cast, ↓capI, br2_true, br2_false, frk_tt, frk_tf, frk_f, frkD_tt, frkD_tf, frkD_f, pk2_true, pk2_false, imp_true, seval, Nat.reduceLeDiff, Nat.reduceEqDiff, reduceCtorEq, ↓reduceIte, cfg0, take_rest, ibeq_dec, V.rn, rns, qn, setPs, rnOs, Ob.rn, gl0, glV, List.map, V.st, List.set_cons_zero, List.size_toArray, hi]
  refine callO.part0 [0] hg (by decide) rfl rfl ⟨by rfl, by simp, trivial⟩ ?_
  unfold dc
  simp only [List.replicate, List.append_eq, List.cons_append, List.nil_append]
  simp (maxSteps := 2000000) -implicitDefEqProofs +contextual (disch := first | assumption | omega | decide +kernel) only [push_cast, ↓capI, br2_true, br2_false, frk_tt, frk_tf, frk_f, frkD_tt, frkD_tf, frkD_f, pk2_true, pk2_false, imp_true, seval, Nat.reduceLeDiff, Nat.reduceEqDiff, reduceCtorEq, ↓reduceIte, cfg0, take_rest, ibeq_dec, V.rn, rns, qn, setPs, rnOs, Ob.rn, gl0, glV, List.map, V.st, List.set_cons_zero, List.size_toArray, hi]
  refine endK.ret ?_ (by first | rfl | simp ); simp [evRes, getT, retV, Tryd.f65,  t48a, t48b, t48c]
theorem f65_8 (n : Nat) (h1 : 10 ^ 7 ≤ n) (h2 : n < 10 ^ 8) : PC Tryd.prog 65 [.int .i64 n, .int .i64 10] (.str (dgs 9 n)) := by
  have hd := numDigits n 8 (by decide) h1 h2
  simp only [Nat.reducePow] at h1 h2
  obtain ⟨A, hA⟩ : ∃ x, x = n / 1 % 100 := ⟨_, rfl⟩
  obtain ⟨B, hB⟩ : ∃ x, x = n / 100 % 100 := ⟨_, rfl⟩
  obtain ⟨C, hC⟩ : ∃ x, x = n / 10000 % 100 := ⟨_, rfl⟩
  obtain ⟨D, hD⟩ : ∃ x, x = n / 1000000 % 100 := ⟨_, rfl⟩
  have hs : dgs 9 n = [UInt8.ofNat (48 + (D / 10)), UInt8.ofNat (48 + (D % 10)), UInt8.ofNat (48 + (C / 10)), UInt8.ofNat (48 + (C % 10)), UInt8.ofNat (48 + (B / 10)), UInt8.ofNat (48 + (B % 10)), UInt8.ofNat (48 + (A / 10)), UInt8.ofNat (48 + (A % 10))] := by
    rw [dgs_step (by omega), dgs_step (by omega), dgs_step (by omega), dgs_step (by omega), dgs_step (by omega), dgs_step (by omega), dgs_step (by omega), dgs_one (by omega)]
    have e0 : n % 10 = A % 10 := by omega
    have e1 : n / 10 % 10 = A / 10 := by omega
    have e2 : n / 10 / 10 % 10 = B % 10 := by omega
    have e3 : n / 10 / 10 / 10 % 10 = B / 10 := by omega
    have e4 : n / 10 / 10 / 10 / 10 % 10 = C % 10 := by omega
    have e5 : n / 10 / 10 / 10 / 10 / 10 % 10 = C / 10 := by omega
    have e6 : n / 10 / 10 / 10 / 10 / 10 / 10 % 10 = D % 10 := by omega
    have e7 : n / 10 / 10 / 10 / 10 / 10 / 10 / 10 = D / 10 := by omega
    rw [e7, e6, e5, e4, e3, e2, e1, e0]
    rfl
  have hg := g80_8 D C B A n (by omega) (by omega) (by omega) (by omega) (by omega)
  have hi : ¬ (n : Int) < 0 := by omega
  have hc : ¬ (n : Int) < 100 := by omega
  clear hA hB hC hD
  rw [hs]
  clear hs
  refine PC.walk tok mixed cfg0 Tryd.func65 rfl Tryd.call65 (by simp ) (by first | rfl | simp ) ?_; simp (maxSteps := 2000000) -implicitDefEqProofs +contextual (disch := first | assumption | omega | decide +kernel) only [push_cast, ↓capI, br2_true, br2_false, frk_tt, frk_tf, frk_f, frkD_tt, frkD_tf, frkD_f, pk2_true, pk2_false, imp_true, seval, Nat.reduceLeDiff, Nat.reduceEqDiff, reduceCtorEq, ↓reduceIte, cfg0, take_rest, ibeq_dec, V.rn, rns, qn, setPs, rnOs, Ob.rn, gl0, glV, List.map, V.st, List.set_cons_zero, List.size_toArray, Tryd.ntmps65]
  (try simp (maxSteps := 2000000) -implicitDefEqProofs +contextual (disch := first | assumption | omega | decide +kernel) only [push_cast, ↓capI, br2_true, br2_false, frk_tt, frk_tf, frk_f, frkD_tt, frkD_tf, frkD_f, pk2_true, pk2_false, imp_true, seval, Nat.reduceLeDiff, Nat.reduceEqDiff, reduceCtorEq, ↓reduceIte, cfg0, take_rest, ibeq_dec, V.rn, rns, qn, setPs, rnOs, Ob.rn, gl0, glV, List.map, V.st, List.set_cons_zero, List.size_toArray, hc])
  refine callO.pc hd ?_
  simp (maxSteps := 2000000) -implicitDefEqProofs +contextual (disch := first | assumption | omega | decide +kernel) only [push_cast, ↓capI, br2_true, br2_false, frk_tt, frk_tf, frk_f, frkD_tt, frkD_tf, frkD_f, pk2_true, pk2_false, imp_true, seval, Nat.reduceLeDiff, Nat.reduceEqDiff, reduceCtorEq, ↓reduceIte, cfg0, take_rest, ibeq_dec, V.rn, rns, qn, setPs, rnOs, Ob.rn, gl0, glV, List.map, V.st, List.set_cons_zero, List.size_toArray, hi]
  refine callO.part0 [0] hg (by decide) rfl rfl ⟨by rfl, by simp, trivial⟩ ?_
  unfold dc
  simp only [List.replicate, List.append_eq, List.cons_append, List.nil_append]
  simp (maxSteps := 2000000) -implicitDefEqProofs +contextual (disch := first | assumption | omega | decide +kernel) only [push_cast, ↓capI, br2_true, br2_false, frk_tt, frk_tf, frk_f, frkD_tt, frkD_tf, frkD_f, pk2_true, pk2_false, imp_true, seval, Nat.reduceLeDiff, Nat.reduceEqDiff, reduceCtorEq, ↓reduceIte, cfg0, take_rest, ibeq_dec, V.rn, rns, qn, setPs, rnOs, Ob.rn, gl0, glV, List.map, V.st, List.set_cons_zero, List.size_toArray, hi]
  refine endK.ret ?_ (by first | rfl | simp ); simp [evRes, getT, retV, Tryd.f65,  t48a, t48b, t48c]
theorem f65_9 (n : Nat) (h1 : 10 ^ 8 ≤ n) (h2 : n < 10 ^ 9) : PC Tryd.prog 65 [.int .i64 n, .int .i64 10] (.str (dgs 9 n)) := by
  have hd := numDigits n 9 (by decide) h1 h2
  simp only [Nat.reducePow] at h1 h2
  obtain ⟨A, hA⟩ : ∃ x, x = n / 1 % 100 := ⟨_, rfl⟩
  obtain ⟨B, hB⟩ : ∃ x, x = n / 100 % 100 := ⟨_, rfl⟩
  obtain ⟨C, hC⟩ : ∃ x, x = n / 10000 % 100 := ⟨_, rfl⟩
  obtain ⟨D, hD⟩ : ∃ x, x = n / 1000000 % 100 := ⟨_, rfl⟩
  obtain ⟨a, ha⟩ : ∃ x, x = n / 100000000 := ⟨_, rfl⟩
  have hs : dgs 9 n = [UInt8.ofNat (48 + a), UInt8.ofNat (48 + (D / 10)), UInt8.ofNat (48 + (D % 10)), UInt8.ofNat (48 + (C / 10)), UInt8.ofNat (48 + (C % 10)), UInt8.ofNat (48 + (B / 10)), UInt8.ofNat (48 + (B % 10)), UInt8.ofNat (48 + (A / 10)), UInt8.ofNat (48 + (A % 10))] := by
    rw [dgs_step (by omega), dgs_step (by omega), dgs_step (by omega), dgs_step (by omega), dgs_step (by omega), dgs_step (by omega), dgs_step (by omega), dgs_step (by omega), dgs_one (by omega)]
    have e0 : n % 10 = A % 10 := by omega
    have e1 : n / 10 % 10 = A / 10 := by omega
    have e2 : n / 10 / 10 % 10 = B % 10 := by omega
    have e3 : n / 10 / 10 / 10 % 10 = B / 10 := by omega
    have e4 : n / 10 / 10 / 10 / 10 % 10 = C % 10 := by omega
    have e5 : n / 10 / 10 / 10 / 10 / 10 % 10 = C / 10 := by omega
    have e6 : n / 10 / 10 / 10 / 10 / 10 / 10 % 10 = D % 10 := by omega
    have e7 : n / 10 / 10 / 10 / 10 / 10 / 10 / 10 % 10 = D / 10 := by omega
    have e8 : n / 10 / 10 / 10 / 10 / 10 / 10 / 10 / 10 = a := by omega
    rw [e8, e7, e6, e5, e4, e3, e2, e1, e0]
    rfl
  have hg := g80_9 a D C B A n (by omega) (by omega) (by omega) (by omega) (by omega) (by omega)
  have hi : ¬ (n : Int) < 0 := by omega
  have hc : ¬ (n : Int) < 100 := by omega
  clear hA hB hC hD ha
  rw [hs]
  clear hs
  refine PC.walk tok mixed cfg0 Tryd.func65 rfl Tryd.call65 (by simp ) (by first | rfl | simp ) ?_; simp (maxSteps := 2000000) -implicitDefEqProofs +contextual (disch := first | assumption | omega | decide +kernel) only [push_cast, ↓capI, br2_true, br2_false, frk_tt, frk_tf, frk_f, frkD_tt, frkD_tf, frkD_f, pk2_true, pk2_false, imp_true, seval, Nat.reduceLeDiff, Nat.reduceEqDiff, reduceCtorEq, ↓reduceIte, cfg0, take_rest, ibeq_dec, V.rn, rns, qn, setPs, rnOs, Ob.rn, gl0, glV, List.map, V.st, List.set_cons_zero, List.size_toArray, Tryd.ntmps65]
  (try simp (maxSteps := 2000000) -implicitDefEqProofs +contextual (disch := first | assumption | omega | decide +kernel) only [push_cast, ↓capI, br2_true, br2_false, frk_tt, frk_tf, frk_f, frkD_tt, frkD_tf, frkD_f, pk2_true, pk2_false, imp_true, seval, Nat.reduceLeDiff, Nat.reduceEqDiff, reduceCtorEq, ↓reduceIte, cfg0, take_rest, ibeq_dec, V.rn, rns, qn, setPs, rnOs, Ob.rn, gl0, glV, List.map, V.st, List.set_cons_zero, List.size_toArray, hc])
  refine callO.pc hd ?_
  simp (maxSteps := 2000000) -implicitDefEqProofs +contextual (disch := first | assumption | omega | decide +kernel) only [push_cast, ↓capI, br2_true, br2_false, frk_tt, frk_tf, frk_f, frkD_tt, frkD_tf, frkD_f, pk2_true, pk2_false, imp_true, seval, Nat.reduceLeDiff, Nat.reduceEqDiff, reduceCtorEq, ↓reduceIte, cfg0, take_rest, ibeq_dec, V.rn, rns, qn, setPs, rnOs, Ob.rn, gl0, glV, List.map, V.st, List.set_cons_zero, List.size_toArray, hi]
  refine callO.part0 [0] hg (by decide) rfl rfl ⟨by rfl, by simp, trivial⟩ ?_
  unfold dc
  simp only [List.replicate, List.append_eq, List.cons_append, List.nil_append]
  simp (maxSteps := 2000000) -implicitDefEqProofs +contextual (disch := first | assumption | omega | decide +kernel) only [push_cast, ↓capI, br2_true, br2_false, frk_tt, frk_tf, frk_f, frkD_tt, frkD_tf, frkD_f, pk2_true, pk2_false, imp_true, seval, Nat.reduceLeDiff, Nat.reduceEqDiff, reduceCtorEq, ↓reduceIte, cfg0, take_rest, ibeq_dec, V.rn, rns, qn, setPs, rnOs, Ob.rn, gl0, glV, List.map, V.st, List.set_cons_zero, List.size_toArray, hi]
  refine endK.ret ?_ (by first | rfl | simp ); simp [evRes, getT, retV, Tryd.f65,  t48a, t48b, t48c]
theorem f65s (n : Nat) (h : n < 100) : PC Tryd.prog 65 [.int .i64 n, .int .i64 10] (.str (dgs 9 n)) := by
  have h8 := pc65 n (by omega)
  have e : dec8 n = dgs 9 n := by
    rw [dec8]
    by_cases h10 : n < 10
    · rw [if_pos h10, dgs_one h10]
    · rw [if_neg h10, if_pos h, dgs_step (by omega), dgs_one (by omega)]
      rfl
  rw [e] at h8
  exact h8
theorem f65 (n : Nat) (h : n < 1000000000) : PC Tryd.prog 65 [.int .i64 n, .int .i64 10] (.str (dgs 9 n)) := by
  by_cases h2 : n < 100
  · exact f65s n h2
  by_cases h3 : n < 1000
  · exact f65_3 n (by simp only [Nat.reducePow]; omega) (by simp only [Nat.reducePow]; omega)
  by_cases h4 : n < 10000
  · exact f65_4 n (by simp only [Nat.reducePow]; omega) (by simp only [Nat.reducePow]; omega)
  by_cases h5 : n < 100000
  · exact f65_5 n (by simp only [Nat.reducePow]; omega) (by simp only [Nat.reducePow]; omega)
  by_cases h6 : n < 1000000
  · exact f65_6 n (by simp only [Nat.reducePow]; omega) (by simp only [Nat.reducePow]; omega)
  by_cases h7 : n < 10000000
  · exact f65_7 n (by simp only [Nat.reducePow]; omega) (by simp only [Nat.reducePow]; omega)
  by_cases h8 : n < 100000000
  · exact f65_8 n (by simp only [Nat.reducePow]; omega) (by simp only [Nat.reducePow]; omega)
  exact f65_9 n (by simp only [Nat.reducePow]; omega) (by simp only [Nat.reducePow]; omega)
theorem fI1 (n : Nat) (hn : n < 1000000000) : PC Tryd.prog 61 [.int .i64 n] (.str (dgs 9 n)) := by
  refine PC.walk tok mixed cfg0 Tryd.func61 rfl Tryd.call61 (by simp ) (by first | rfl | simp ) ?_; simp (maxSteps := 2000000) -implicitDefEqProofs +contextual (disch := first | assumption | omega | decide +kernel) only [push_cast, ↓capI, br2_true, br2_false, frk_tt, frk_tf, frk_f, frkD_tt, frkD_tf, frkD_f, pk2_true, pk2_false, imp_true, seval, Nat.reduceLeDiff, Nat.reduceEqDiff, reduceCtorEq, ↓reduceIte, cfg0, take_rest, ibeq_dec, V.rn, rns, qn, setPs, rnOs, Ob.rn, gl0, glV, List.map, V.st, List.set_cons_zero, List.size_toArray, Tryd.ntmps61]
  refine callO.pc (f65 n hn) ?_
  simp (maxSteps := 2000000) -implicitDefEqProofs +contextual (disch := first | assumption | omega | decide +kernel) only [push_cast, ↓capI, br2_true, br2_false, frk_tt, frk_tf, frk_f, frkD_tt, frkD_tf, frkD_f, pk2_true, pk2_false, imp_true, seval, Nat.reduceLeDiff, Nat.reduceEqDiff, reduceCtorEq, ↓reduceIte, cfg0, take_rest, ibeq_dec, V.rn, rns, qn, setPs, rnOs, Ob.rn, gl0, glV, List.map, V.st, List.set_cons_zero, List.size_toArray]
  refine endK.ret ?_ (by first | rfl | simp ); simp [evRes, getT, retV, Tryd.f61]
theorem fI2 (n : Nat) (hn : n < 1000000000) : PC Tryd.prog 56 [.int .i64 n] (.str (dgs 9 n)) := by
  refine PC.walk tok mixed cfg0 Tryd.func56 rfl Tryd.call56 (by simp ) (by first | rfl | simp ) ?_; simp (maxSteps := 2000000) -implicitDefEqProofs +contextual (disch := first | assumption | omega | decide +kernel) only [push_cast, ↓capI, br2_true, br2_false, frk_tt, frk_tf, frk_f, frkD_tt, frkD_tf, frkD_f, pk2_true, pk2_false, imp_true, seval, Nat.reduceLeDiff, Nat.reduceEqDiff, reduceCtorEq, ↓reduceIte, cfg0, take_rest, ibeq_dec, V.rn, rns, qn, setPs, rnOs, Ob.rn, gl0, glV, List.map, V.st, List.set_cons_zero, List.size_toArray, Tryd.ntmps56]
  refine callO.pc (fI1 n hn) ?_
  simp (maxSteps := 2000000) -implicitDefEqProofs +contextual (disch := first | assumption | omega | decide +kernel) only [push_cast, ↓capI, br2_true, br2_false, frk_tt, frk_tf, frk_f, frkD_tt, frkD_tf, frkD_f, pk2_true, pk2_false, imp_true, seval, Nat.reduceLeDiff, Nat.reduceEqDiff, reduceCtorEq, ↓reduceIte, cfg0, take_rest, ibeq_dec, V.rn, rns, qn, setPs, rnOs, Ob.rn, gl0, glV, List.map, V.st, List.set_cons_zero, List.size_toArray]
  refine endK.ret ?_ (by first | rfl | simp ); simp [evRes, getT, retV, Tryd.f56]
theorem fmtP (n : Nat) (hn : n < 1000000000) : PC Tryd.prog 46 [.int .i64 n] (.str (dgs 9 n)) := by
  refine PC.walk tok mixed cfg0 Tryd.func46 rfl Tryd.call46 (by simp ) (by first | rfl | simp ) ?_; simp (maxSteps := 2000000) -implicitDefEqProofs +contextual (disch := first | assumption | omega | decide +kernel) only [push_cast, ↓capI, br2_true, br2_false, frk_tt, frk_tf, frk_f, frkD_tt, frkD_tf, frkD_f, pk2_true, pk2_false, imp_true, seval, Nat.reduceLeDiff, Nat.reduceEqDiff, reduceCtorEq, ↓reduceIte, cfg0, take_rest, ibeq_dec, V.rn, rns, qn, setPs, rnOs, Ob.rn, gl0, glV, List.map, V.st, List.set_cons_zero, List.size_toArray, Tryd.ntmps46]
  refine callO.pc (fI2 n hn) ?_
  simp (maxSteps := 2000000) -implicitDefEqProofs +contextual (disch := first | assumption | omega | decide +kernel) only [push_cast, ↓capI, br2_true, br2_false, frk_tt, frk_tf, frk_f, frkD_tt, frkD_tf, frkD_f, pk2_true, pk2_false, imp_true, seval, Nat.reduceLeDiff, Nat.reduceEqDiff, reduceCtorEq, ↓reduceIte, cfg0, take_rest, ibeq_dec, V.rn, rns, qn, setPs, rnOs, Ob.rn, gl0, glV, List.map, V.st, List.set_cons_zero, List.size_toArray]
  refine endK.ret ?_ (by first | rfl | simp ); simp [evRes, getT, retV, Tryd.f46]
end Go.Proofs.YtginpkchjeooeaaDoor

/- Chapter 41: the text of a path expression, program and reference. -/
set_option maxRecDepth 100000
set_option maxHeartbeats 4000000
set_option linter.all false
namespace Go.Proofs.YtginpkchjeooeaaDoor
open Go.Vm

def inn (k need : Int) (s : List UInt8) : List UInt8 := if k < need then [40] ++ s ++ [41] else s
theorem inn_len (k need : Int) (s : List UInt8) : (inn k need s).length ≤ s.length + 2 := by
  unfold inn
  split
  · simp
  · omega
def prec : Pr → Int
  | .leaf _ => 3
  | .un _ _ => 3
  | .bin x _ _ => if x.op = 5 then 1 else 2
def tx : Pr → List UInt8
  | .leaf x => if x.op = 1 then [40, 41] else if x.op = 2 then [46] else dgs 9 x.n.toNat
  | .un _ p => inn (prec p) 3 (tx p) ++ [42]
  | .bin x p q => if x.op = 5 then inn (prec p) 1 (tx p) ++ [124] ++ inn (prec q) 2 (tx q) else inn (prec p) 2 (tx p) ++ [44] ++ inn (prec q) 3 (tx q)
theorem leaf_len (x : Nd) : (tx (.leaf x)).length ≤ 9 := by
  have := dgs_len 9 x.n.toNat
  rw [tx]
  split
  · decide
  split
  · decide
  · exact this
theorem tx_len : ∀ p : Pr, (tx p).length ≤ 9 * (flat p).length
  | .leaf x => by
    have := leaf_len x
    rw [flat, List.length_singleton]
    omega
  | .un x p => by
    have h1 := tx_len p
    have h2 := inn_len (prec p) 3 (tx p)
    rw [tx, flat]
    (try simp only [List.length_append, List.length_cons, List.length_nil]); omega
  | .bin x p q => by
    have h1 := tx_len p
    have h2 := tx_len q
    have h3 := inn_len (prec p) 2 (tx p)
    have h4 := inn_len (prec p) 1 (tx p)
    have h5 := inn_len (prec q) 2 (tx q)
    have h6 := inn_len (prec q) 3 (tx q)
    rw [tx, flat]
    split
    · (try simp only [List.length_append, List.length_cons, List.length_nil]); omega
    · (try simp only [List.length_append, List.length_cons, List.length_nil]); omega
theorem pc55 : ∀ p : Pr, PC Tryd.prog 55 [encX p] (.int .i64 (prec p))
  | .leaf x => by
    refine PC.walk tok mixed cfg0 Tryd.func55 rfl Tryd.call55 (by simp [belN, bel_Ns, bel_slN, bel_clX, bel_encX]) (by first | rfl | simp [belN, bel_Ns, bel_slN, bel_clX, bel_encX]) ?_; simp (maxSteps := 2000000) -implicitDefEqProofs +contextual (disch := first | assumption | omega | decide +kernel) only [push_cast, ↓capI, br2_true, br2_false, frk_tt, frk_tf, frk_f, frkD_tt, frkD_tf, frkD_f, pk2_true, pk2_false, imp_true, seval, Nat.reduceLeDiff, Nat.reduceEqDiff, reduceCtorEq, ↓reduceIte, fmN, fm0, take_N, toN1, slN_nil, encN, slN, cfg0, get_flat_part lenN, get_flat_drop lenN, len_flat lenN, encX, ibeq_dec, Tryd.ntmps55]
    simp (maxSteps := 2000000) -implicitDefEqProofs +contextual (disch := first | assumption | omega | decide +kernel) only [push_cast, ↓capI, br2_true, br2_false, frk_tt, frk_tf, frk_f, frkD_tt, frkD_tf, frkD_f, pk2_true, pk2_false, imp_true, seval, Nat.reduceLeDiff, Nat.reduceEqDiff, reduceCtorEq, ↓reduceIte, fmN, fm0, take_N, toN1, slN_nil, encN, slN, cfg0, get_flat_part lenN, get_flat_drop lenN, len_flat lenN, encX, ibeq_dec, tgX, clX]
    refine endK.ret ?_ (by first | rfl | simp [belN, bel_Ns, bel_slN, bel_clX, bel_encX]); simp [evRes, getT, retV, Tryd.f55,  prec]
  | .un x p => by
    refine PC.walk tok mixed cfg0 Tryd.func55 rfl Tryd.call55 (by simp [belN, bel_Ns, bel_slN, bel_clX, bel_encX]) (by first | rfl | simp [belN, bel_Ns, bel_slN, bel_clX, bel_encX]) ?_; simp (maxSteps := 2000000) -implicitDefEqProofs +contextual (disch := first | assumption | omega | decide +kernel) only [push_cast, ↓capI, br2_true, br2_false, frk_tt, frk_tf, frk_f, frkD_tt, frkD_tf, frkD_f, pk2_true, pk2_false, imp_true, seval, Nat.reduceLeDiff, Nat.reduceEqDiff, reduceCtorEq, ↓reduceIte, fmN, fm0, take_N, toN1, slN_nil, encN, slN, cfg0, get_flat_part lenN, get_flat_drop lenN, len_flat lenN, encX, ibeq_dec, Tryd.ntmps55]
    simp (maxSteps := 2000000) -implicitDefEqProofs +contextual (disch := first | assumption | omega | decide +kernel) only [push_cast, ↓capI, br2_true, br2_false, frk_tt, frk_tf, frk_f, frkD_tt, frkD_tf, frkD_f, pk2_true, pk2_false, imp_true, seval, Nat.reduceLeDiff, Nat.reduceEqDiff, reduceCtorEq, ↓reduceIte, fmN, fm0, take_N, toN1, slN_nil, encN, slN, cfg0, get_flat_part lenN, get_flat_drop lenN, len_flat lenN, encX, ibeq_dec, tgX, clX]
    refine endK.ret ?_ (by first | rfl | simp [belN, bel_Ns, bel_slN, bel_clX, bel_encX]); simp [evRes, getT, retV, Tryd.f55,  prec]
  | .bin x p q => by
    by_cases h : x.op = 5
    · refine PC.walk tok mixed cfg0 Tryd.func55 rfl Tryd.call55 (by simp [belN, bel_Ns, bel_slN, bel_clX, bel_encX]) (by first | rfl | simp [belN, bel_Ns, bel_slN, bel_clX, bel_encX]) ?_; simp (maxSteps := 2000000) -implicitDefEqProofs +contextual (disch := first | assumption | omega | decide +kernel) only [push_cast, ↓capI, br2_true, br2_false, frk_tt, frk_tf, frk_f, frkD_tt, frkD_tf, frkD_f, pk2_true, pk2_false, imp_true, seval, Nat.reduceLeDiff, Nat.reduceEqDiff, reduceCtorEq, ↓reduceIte, fmN, fm0, take_N, toN1, slN_nil, encN, slN, cfg0, get_flat_part lenN, get_flat_drop lenN, len_flat lenN, encX, ibeq_dec, Tryd.ntmps55]
      simp (maxSteps := 2000000) -implicitDefEqProofs +contextual (disch := first | assumption | omega | decide +kernel) only [push_cast, ↓capI, br2_true, br2_false, frk_tt, frk_tf, frk_f, frkD_tt, frkD_tf, frkD_f, pk2_true, pk2_false, imp_true, seval, Nat.reduceLeDiff, Nat.reduceEqDiff, reduceCtorEq, ↓reduceIte, fmN, fm0, take_N, toN1, slN_nil, encN, slN, cfg0, get_flat_part lenN, get_flat_drop lenN, len_flat lenN, encX, ibeq_dec, tgX, clX, h]
      refine endK.ret ?_ (by first | rfl | simp [belN, bel_Ns, bel_slN, bel_clX, bel_encX]); simp [evRes, getT, retV, Tryd.f55,  prec, h]
    · refine PC.walk tok mixed cfg0 Tryd.func55 rfl Tryd.call55 (by simp [belN, bel_Ns, bel_slN, bel_clX, bel_encX]) (by first | rfl | simp [belN, bel_Ns, bel_slN, bel_clX, bel_encX]) ?_; simp (maxSteps := 2000000) -implicitDefEqProofs +contextual (disch := first | assumption | omega | decide +kernel) only [push_cast, ↓capI, br2_true, br2_false, frk_tt, frk_tf, frk_f, frkD_tt, frkD_tf, frkD_f, pk2_true, pk2_false, imp_true, seval, Nat.reduceLeDiff, Nat.reduceEqDiff, reduceCtorEq, ↓reduceIte, fmN, fm0, take_N, toN1, slN_nil, encN, slN, cfg0, get_flat_part lenN, get_flat_drop lenN, len_flat lenN, encX, ibeq_dec, Tryd.ntmps55]
      simp (maxSteps := 2000000) -implicitDefEqProofs +contextual (disch := first | assumption | omega | decide +kernel) only [push_cast, ↓capI, br2_true, br2_false, frk_tt, frk_tf, frk_f, frkD_tt, frkD_tf, frkD_f, pk2_true, pk2_false, imp_true, seval, Nat.reduceLeDiff, Nat.reduceEqDiff, reduceCtorEq, ↓reduceIte, fmN, fm0, take_N, toN1, slN_nil, encN, slN, cfg0, get_flat_part lenN, get_flat_drop lenN, len_flat lenN, encX, ibeq_dec, tgX, clX, h]
      refine endK.ret ?_ (by first | rfl | simp [belN, bel_Ns, bel_slN, bel_clX, bel_encX]); simp [evRes, getT, retV, Tryd.f55,  prec, h]
theorem pc45 (p : Pr) (need : Int) (hl : (flat p).length ≤ 4000000) (h : PC Tryd.prog 34 [encX p] (.str (tx p))) : PC Tryd.prog 45 [encX p, .int .i64 need] (.str (inn (prec p) need (tx p))) := by
  have hs := tx_len p
  have h55 := pc55 p
  rw [encX] at h h55
  by_cases hk : prec p < need
  · refine PC.walk tok mixed cfg0 Tryd.func45 rfl Tryd.call45 (by simp [belN, bel_Ns, bel_slN, bel_clX, bel_encX]) (by first | rfl | simp [belN, bel_Ns, bel_slN, bel_clX, bel_encX]) ?_; simp (maxSteps := 2000000) -implicitDefEqProofs +contextual (disch := first | assumption | omega | decide +kernel) only [push_cast, ↓capI, br2_true, br2_false, frk_tt, frk_tf, frk_f, frkD_tt, frkD_tf, frkD_f, pk2_true, pk2_false, imp_true, seval, Nat.reduceLeDiff, Nat.reduceEqDiff, reduceCtorEq, ↓reduceIte, fmN, fm0, take_N, toN1, slN_nil, encN, slN, cfg0, get_flat_part lenN, get_flat_drop lenN, len_flat lenN, encX, ibeq_dec, Tryd.ntmps45]
    refine callO.pc h ?_
    simp (maxSteps := 2000000) -implicitDefEqProofs +contextual (disch := first | assumption | omega | decide +kernel) only [push_cast, ↓capI, br2_true, br2_false, frk_tt, frk_tf, frk_f, frkD_tt, frkD_tf, frkD_f, pk2_true, pk2_false, imp_true, seval, Nat.reduceLeDiff, Nat.reduceEqDiff, reduceCtorEq, ↓reduceIte, fmN, fm0, take_N, toN1, slN_nil, encN, slN, cfg0, get_flat_part lenN, get_flat_drop lenN, len_flat lenN, encX, ibeq_dec]
    refine callO.pc h55 ?_
    simp (maxSteps := 2000000) -implicitDefEqProofs +contextual (disch := first | assumption | omega | decide +kernel) only [push_cast, ↓capI, br2_true, br2_false, frk_tt, frk_tf, frk_f, frkD_tt, frkD_tf, frkD_f, pk2_true, pk2_false, imp_true, seval, Nat.reduceLeDiff, Nat.reduceEqDiff, reduceCtorEq, ↓reduceIte, fmN, fm0, take_N, toN1, slN_nil, encN, slN, cfg0, get_flat_part lenN, get_flat_drop lenN, len_flat lenN, encX, ibeq_dec, hk]
    (try refine ⟨by (try simp only [List.length_append, List.length_cons, List.length_nil]); omega, fun _ => ?_⟩)
    (try simp (maxSteps := 2000000) -implicitDefEqProofs +contextual (disch := first | assumption | omega | decide +kernel) only [push_cast, ↓capI, br2_true, br2_false, frk_tt, frk_tf, frk_f, frkD_tt, frkD_tf, frkD_f, pk2_true, pk2_false, imp_true, seval, Nat.reduceLeDiff, Nat.reduceEqDiff, reduceCtorEq, ↓reduceIte, fmN, fm0, take_N, toN1, slN_nil, encN, slN, cfg0, get_flat_part lenN, get_flat_drop lenN, len_flat lenN, encX, ibeq_dec])
    (try refine ⟨by (try simp only [List.length_append, List.length_cons, List.length_nil]); omega, fun _ => ?_⟩)
    refine endK.ret ?_ (by first | rfl | simp [belN, bel_Ns, bel_slN, bel_clX, bel_encX]); simp [evRes, getT, retV, Tryd.f45,  inn, hk]
  · refine PC.walk tok mixed cfg0 Tryd.func45 rfl Tryd.call45 (by simp [belN, bel_Ns, bel_slN, bel_clX, bel_encX]) (by first | rfl | simp [belN, bel_Ns, bel_slN, bel_clX, bel_encX]) ?_; simp (maxSteps := 2000000) -implicitDefEqProofs +contextual (disch := first | assumption | omega | decide +kernel) only [push_cast, ↓capI, br2_true, br2_false, frk_tt, frk_tf, frk_f, frkD_tt, frkD_tf, frkD_f, pk2_true, pk2_false, imp_true, seval, Nat.reduceLeDiff, Nat.reduceEqDiff, reduceCtorEq, ↓reduceIte, fmN, fm0, take_N, toN1, slN_nil, encN, slN, cfg0, get_flat_part lenN, get_flat_drop lenN, len_flat lenN, encX, ibeq_dec, Tryd.ntmps45]
    refine callO.pc h ?_
    simp (maxSteps := 2000000) -implicitDefEqProofs +contextual (disch := first | assumption | omega | decide +kernel) only [push_cast, ↓capI, br2_true, br2_false, frk_tt, frk_tf, frk_f, frkD_tt, frkD_tf, frkD_f, pk2_true, pk2_false, imp_true, seval, Nat.reduceLeDiff, Nat.reduceEqDiff, reduceCtorEq, ↓reduceIte, fmN, fm0, take_N, toN1, slN_nil, encN, slN, cfg0, get_flat_part lenN, get_flat_drop lenN, len_flat lenN, encX, ibeq_dec]
    refine callO.pc h55 ?_
    simp (maxSteps := 2000000) -implicitDefEqProofs +contextual (disch := first | assumption | omega | decide +kernel) only [push_cast, ↓capI, br2_true, br2_false, frk_tt, frk_tf, frk_f, frkD_tt, frkD_tf, frkD_f, pk2_true, pk2_false, imp_true, seval, Nat.reduceLeDiff, Nat.reduceEqDiff, reduceCtorEq, ↓reduceIte, fmN, fm0, take_N, toN1, slN_nil, encN, slN, cfg0, get_flat_part lenN, get_flat_drop lenN, len_flat lenN, encX, ibeq_dec, hk]
    refine endK.ret ?_ (by first | rfl | simp [belN, bel_Ns, bel_slN, bel_clX, bel_encX]); simp [evRes, getT, retV, Tryd.f45,  inn, hk]
theorem ok_leaf {p : Nd} (h : okP 1000000000 (.leaf p)) (h3 : p.op = 3) : 0 ≤ p.n ∧ p.n < 1000000000 := by
  obtain ⟨_, h2⟩ := h
  unfold chk1 at h2
  have ha : ¬ arity p.op < 0 := by rw [h3]; decide
  rw [if_neg ha] at h2
  have : ¬ badN 1000000000 p := fun g => by rw [if_pos ⟨h3, g⟩] at h2; exact absurd h2 (by decide)
  unfold badN at this
  omega
theorem pc34 : ∀ p : Pr, okP 1000000000 p → (flat p).length ≤ 4000000 → PC Tryd.prog 34 [encX p] (.str (tx p))
  | .leaf x, hp, _ => by
    by_cases h1 : x.op = 1
    · refine PC.walk tok mixed cfg0 Tryd.func34 rfl Tryd.call34 (by simp [belN, bel_Ns, bel_slN, bel_clX, bel_encX]) (by first | rfl | simp [belN, bel_Ns, bel_slN, bel_clX, bel_encX]) ?_; simp (maxSteps := 2000000) -implicitDefEqProofs +contextual (disch := first | assumption | omega | decide +kernel) only [push_cast, ↓capI, br2_true, br2_false, frk_tt, frk_tf, frk_f, frkD_tt, frkD_tf, frkD_f, pk2_true, pk2_false, imp_true, seval, Nat.reduceLeDiff, Nat.reduceEqDiff, reduceCtorEq, ↓reduceIte, fmN, fm0, take_N, toN1, slN_nil, encN, slN, cfg0, get_flat_part lenN, get_flat_drop lenN, len_flat lenN, encX, ibeq_dec, Tryd.ntmps34]
      simp (maxSteps := 2000000) -implicitDefEqProofs +contextual (disch := first | assumption | omega | decide +kernel) only [push_cast, ↓capI, br2_true, br2_false, frk_tt, frk_tf, frk_f, frkD_tt, frkD_tf, frkD_f, pk2_true, pk2_false, imp_true, seval, Nat.reduceLeDiff, Nat.reduceEqDiff, reduceCtorEq, ↓reduceIte, fmN, fm0, take_N, toN1, slN_nil, encN, slN, cfg0, get_flat_part lenN, get_flat_drop lenN, len_flat lenN, encX, ibeq_dec, tgX, clX, h1]
      refine endK.ret ?_ (by first | rfl | simp [belN, bel_Ns, bel_slN, bel_clX, bel_encX]); simp [evRes, getT, retV, Tryd.f34,  tx, h1]
    by_cases h2 : x.op = 2
    · refine PC.walk tok mixed cfg0 Tryd.func34 rfl Tryd.call34 (by simp [belN, bel_Ns, bel_slN, bel_clX, bel_encX]) (by first | rfl | simp [belN, bel_Ns, bel_slN, bel_clX, bel_encX]) ?_; simp (maxSteps := 2000000) -implicitDefEqProofs +contextual (disch := first | assumption | omega | decide +kernel) only [push_cast, ↓capI, br2_true, br2_false, frk_tt, frk_tf, frk_f, frkD_tt, frkD_tf, frkD_f, pk2_true, pk2_false, imp_true, seval, Nat.reduceLeDiff, Nat.reduceEqDiff, reduceCtorEq, ↓reduceIte, fmN, fm0, take_N, toN1, slN_nil, encN, slN, cfg0, get_flat_part lenN, get_flat_drop lenN, len_flat lenN, encX, ibeq_dec, Tryd.ntmps34]
      simp (maxSteps := 2000000) -implicitDefEqProofs +contextual (disch := first | assumption | omega | decide +kernel) only [push_cast, ↓capI, br2_true, br2_false, frk_tt, frk_tf, frk_f, frkD_tt, frkD_tf, frkD_f, pk2_true, pk2_false, imp_true, seval, Nat.reduceLeDiff, Nat.reduceEqDiff, reduceCtorEq, ↓reduceIte, fmN, fm0, take_N, toN1, slN_nil, encN, slN, cfg0, get_flat_part lenN, get_flat_drop lenN, len_flat lenN, encX, ibeq_dec, tgX, clX, h1, h2]
      refine endK.ret ?_ (by first | rfl | simp [belN, bel_Ns, bel_slN, bel_clX, bel_encX]); simp [evRes, getT, retV, Tryd.f34,  tx, h1, h2]
    have h3 : x.op = 3 := by have := hp.1; omega
    obtain ⟨b1, b2⟩ := ok_leaf hp h3
    have hf := fmtP x.n.toNat (by omega)
    rw [Int.toNat_of_nonneg b1] at hf
    refine PC.walk tok mixed cfg0 Tryd.func34 rfl Tryd.call34 (by simp [belN, bel_Ns, bel_slN, bel_clX, bel_encX]) (by first | rfl | simp [belN, bel_Ns, bel_slN, bel_clX, bel_encX]) ?_; simp (maxSteps := 2000000) -implicitDefEqProofs +contextual (disch := first | assumption | omega | decide +kernel) only [push_cast, ↓capI, br2_true, br2_false, frk_tt, frk_tf, frk_f, frkD_tt, frkD_tf, frkD_f, pk2_true, pk2_false, imp_true, seval, Nat.reduceLeDiff, Nat.reduceEqDiff, reduceCtorEq, ↓reduceIte, fmN, fm0, take_N, toN1, slN_nil, encN, slN, cfg0, get_flat_part lenN, get_flat_drop lenN, len_flat lenN, encX, ibeq_dec, Tryd.ntmps34]
    simp (maxSteps := 2000000) -implicitDefEqProofs +contextual (disch := first | assumption | omega | decide +kernel) only [push_cast, ↓capI, br2_true, br2_false, frk_tt, frk_tf, frk_f, frkD_tt, frkD_tf, frkD_f, pk2_true, pk2_false, imp_true, seval, Nat.reduceLeDiff, Nat.reduceEqDiff, reduceCtorEq, ↓reduceIte, fmN, fm0, take_N, toN1, slN_nil, encN, slN, cfg0, get_flat_part lenN, get_flat_drop lenN, len_flat lenN, encX, ibeq_dec, tgX, clX, h1, h2, nN, h3]
    refine callO.pc hf ?_
    simp (maxSteps := 2000000) -implicitDefEqProofs +contextual (disch := first | assumption | omega | decide +kernel) only [push_cast, ↓capI, br2_true, br2_false, frk_tt, frk_tf, frk_f, frkD_tt, frkD_tf, frkD_f, pk2_true, pk2_false, imp_true, seval, Nat.reduceLeDiff, Nat.reduceEqDiff, reduceCtorEq, ↓reduceIte, fmN, fm0, take_N, toN1, slN_nil, encN, slN, cfg0, get_flat_part lenN, get_flat_drop lenN, len_flat lenN, encX, ibeq_dec]
    refine endK.ret ?_ (by first | rfl | simp [belN, bel_Ns, bel_slN, bel_clX, bel_encX]); simp [evRes, getT, retV, Tryd.f34,  tx, h1, h2]
  | .un x p, hp, hl => by
    rw [flat, List.length_cons] at hl
    have i1 := pc45 p 3 (by omega) (pc34 p hp.2 (by omega))
    have ht := tx_len p
    have hn := inn_len (prec p) 3 (tx p)
    rw [encX] at i1
    refine PC.walk tok mixed cfg0 Tryd.func34 rfl Tryd.call34 (by simp [belN, bel_Ns, bel_slN, bel_clX, bel_encX]) (by first | rfl | simp [belN, bel_Ns, bel_slN, bel_clX, bel_encX]) ?_; simp (maxSteps := 2000000) -implicitDefEqProofs +contextual (disch := first | assumption | omega | decide +kernel) only [push_cast, ↓capI, br2_true, br2_false, frk_tt, frk_tf, frk_f, frkD_tt, frkD_tf, frkD_f, pk2_true, pk2_false, imp_true, seval, Nat.reduceLeDiff, Nat.reduceEqDiff, reduceCtorEq, ↓reduceIte, fmN, fm0, take_N, toN1, slN_nil, encN, slN, cfg0, get_flat_part lenN, get_flat_drop lenN, len_flat lenN, encX, ibeq_dec, Tryd.ntmps34]
    simp (maxSteps := 2000000) -implicitDefEqProofs +contextual (disch := first | assumption | omega | decide +kernel) only [push_cast, ↓capI, br2_true, br2_false, frk_tt, frk_tf, frk_f, frkD_tt, frkD_tf, frkD_f, pk2_true, pk2_false, imp_true, seval, Nat.reduceLeDiff, Nat.reduceEqDiff, reduceCtorEq, ↓reduceIte, fmN, fm0, take_N, toN1, slN_nil, encN, slN, cfg0, get_flat_part lenN, get_flat_drop lenN, len_flat lenN, encX, ibeq_dec, tgX, clX]
    refine callO.pc i1 ?_
    simp (maxSteps := 2000000) -implicitDefEqProofs +contextual (disch := first | assumption | omega | decide +kernel) only [push_cast, ↓capI, br2_true, br2_false, frk_tt, frk_tf, frk_f, frkD_tt, frkD_tf, frkD_f, pk2_true, pk2_false, imp_true, seval, Nat.reduceLeDiff, Nat.reduceEqDiff, reduceCtorEq, ↓reduceIte, fmN, fm0, take_N, toN1, slN_nil, encN, slN, cfg0, get_flat_part lenN, get_flat_drop lenN, len_flat lenN, encX, ibeq_dec]
    (try refine ⟨by (try simp only [List.length_append, List.length_cons, List.length_nil]); omega, fun _ => ?_⟩)
    refine endK.ret ?_ (by first | rfl | simp [belN, bel_Ns, bel_slN, bel_clX, bel_encX]); simp [evRes, getT, retV, Tryd.f34,  tx]
  | .bin x p q, hp, hl => by
    rw [flat, List.length_cons, List.length_append] at hl
    have a1 := pc34 p hp.2.1 (by omega)
    have a2 := pc34 q hp.2.2 (by omega)
    have t1 := tx_len p
    have t2 := tx_len q
    have n1 := inn_len (prec p) 2 (tx p)
    have n2 := inn_len (prec p) 1 (tx p)
    have n3 := inn_len (prec q) 2 (tx q)
    have n4 := inn_len (prec q) 3 (tx q)
    by_cases h5 : x.op = 5
    · have i1 := pc45 p 1 (by omega) a1
      have i2 := pc45 q 2 (by omega) a2
      rw [encX] at i1 i2
      refine PC.walk tok mixed cfg0 Tryd.func34 rfl Tryd.call34 (by simp [belN, bel_Ns, bel_slN, bel_clX, bel_encX]) (by first | rfl | simp [belN, bel_Ns, bel_slN, bel_clX, bel_encX]) ?_; simp (maxSteps := 2000000) -implicitDefEqProofs +contextual (disch := first | assumption | omega | decide +kernel) only [push_cast, ↓capI, br2_true, br2_false, frk_tt, frk_tf, frk_f, frkD_tt, frkD_tf, frkD_f, pk2_true, pk2_false, imp_true, seval, Nat.reduceLeDiff, Nat.reduceEqDiff, reduceCtorEq, ↓reduceIte, fmN, fm0, take_N, toN1, slN_nil, encN, slN, cfg0, get_flat_part lenN, get_flat_drop lenN, len_flat lenN, encX, ibeq_dec, Tryd.ntmps34]
      simp (maxSteps := 2000000) -implicitDefEqProofs +contextual (disch := first | assumption | omega | decide +kernel) only [push_cast, ↓capI, br2_true, br2_false, frk_tt, frk_tf, frk_f, frkD_tt, frkD_tf, frkD_f, pk2_true, pk2_false, imp_true, seval, Nat.reduceLeDiff, Nat.reduceEqDiff, reduceCtorEq, ↓reduceIte, fmN, fm0, take_N, toN1, slN_nil, encN, slN, cfg0, get_flat_part lenN, get_flat_drop lenN, len_flat lenN, encX, ibeq_dec, tgX, clX, h5]
      refine callG.pc1 i1 ?_
      simp (maxSteps := 2000000) -implicitDefEqProofs +contextual (disch := first | assumption | omega | decide +kernel) only [push_cast, ↓capI, br2_true, br2_false, frk_tt, frk_tf, frk_f, frkD_tt, frkD_tf, frkD_f, pk2_true, pk2_false, imp_true, seval, Nat.reduceLeDiff, Nat.reduceEqDiff, reduceCtorEq, ↓reduceIte, fmN, fm0, take_N, toN1, slN_nil, encN, slN, cfg0, get_flat_part lenN, get_flat_drop lenN, len_flat lenN, encX, ibeq_dec]
      (try refine ⟨by (try simp only [List.length_append, List.length_cons, List.length_nil]); omega, fun _ => ?_⟩)
      refine callG.pc1 i2 ?_
      simp (maxSteps := 2000000) -implicitDefEqProofs +contextual (disch := first | assumption | omega | decide +kernel) only [push_cast, ↓capI, br2_true, br2_false, frk_tt, frk_tf, frk_f, frkD_tt, frkD_tf, frkD_f, pk2_true, pk2_false, imp_true, seval, Nat.reduceLeDiff, Nat.reduceEqDiff, reduceCtorEq, ↓reduceIte, fmN, fm0, take_N, toN1, slN_nil, encN, slN, cfg0, get_flat_part lenN, get_flat_drop lenN, len_flat lenN, encX, ibeq_dec]
      (try refine ⟨by (try simp only [List.length_append, List.length_cons, List.length_nil]); omega, fun _ => ?_⟩)
      refine endK.ret ?_ (by first | rfl | simp [belN, bel_Ns, bel_slN, bel_clX, bel_encX]); simp [evRes, getT, retV, Tryd.f34,  tx, h5]
    · have i1 := pc45 p 2 (by omega) a1
      have i2 := pc45 q 3 (by omega) a2
      rw [encX] at i1 i2
      refine PC.walk tok mixed cfg0 Tryd.func34 rfl Tryd.call34 (by simp [belN, bel_Ns, bel_slN, bel_clX, bel_encX]) (by first | rfl | simp [belN, bel_Ns, bel_slN, bel_clX, bel_encX]) ?_; simp (maxSteps := 2000000) -implicitDefEqProofs +contextual (disch := first | assumption | omega | decide +kernel) only [push_cast, ↓capI, br2_true, br2_false, frk_tt, frk_tf, frk_f, frkD_tt, frkD_tf, frkD_f, pk2_true, pk2_false, imp_true, seval, Nat.reduceLeDiff, Nat.reduceEqDiff, reduceCtorEq, ↓reduceIte, fmN, fm0, take_N, toN1, slN_nil, encN, slN, cfg0, get_flat_part lenN, get_flat_drop lenN, len_flat lenN, encX, ibeq_dec, Tryd.ntmps34]
      simp (maxSteps := 2000000) -implicitDefEqProofs +contextual (disch := first | assumption | omega | decide +kernel) only [push_cast, ↓capI, br2_true, br2_false, frk_tt, frk_tf, frk_f, frkD_tt, frkD_tf, frkD_f, pk2_true, pk2_false, imp_true, seval, Nat.reduceLeDiff, Nat.reduceEqDiff, reduceCtorEq, ↓reduceIte, fmN, fm0, take_N, toN1, slN_nil, encN, slN, cfg0, get_flat_part lenN, get_flat_drop lenN, len_flat lenN, encX, ibeq_dec, tgX, clX, h5]
      refine callG.pc1 i1 ?_
      simp (maxSteps := 2000000) -implicitDefEqProofs +contextual (disch := first | assumption | omega | decide +kernel) only [push_cast, ↓capI, br2_true, br2_false, frk_tt, frk_tf, frk_f, frkD_tt, frkD_tf, frkD_f, pk2_true, pk2_false, imp_true, seval, Nat.reduceLeDiff, Nat.reduceEqDiff, reduceCtorEq, ↓reduceIte, fmN, fm0, take_N, toN1, slN_nil, encN, slN, cfg0, get_flat_part lenN, get_flat_drop lenN, len_flat lenN, encX, ibeq_dec]
      (try refine ⟨by (try simp only [List.length_append, List.length_cons, List.length_nil]); omega, fun _ => ?_⟩)
      refine callG.pc1 i2 ?_
      simp (maxSteps := 2000000) -implicitDefEqProofs +contextual (disch := first | assumption | omega | decide +kernel) only [push_cast, ↓capI, br2_true, br2_false, frk_tt, frk_tf, frk_f, frkD_tt, frkD_tf, frkD_f, pk2_true, pk2_false, imp_true, seval, Nat.reduceLeDiff, Nat.reduceEqDiff, reduceCtorEq, ↓reduceIte, fmN, fm0, take_N, toN1, slN_nil, encN, slN, cfg0, get_flat_part lenN, get_flat_drop lenN, len_flat lenN, encX, ibeq_dec]
      (try refine ⟨by (try simp only [List.length_append, List.length_cons, List.length_nil]); omega, fun _ => ?_⟩)
      refine endK.ret ?_ (by first | rfl | simp [belN, bel_Ns, bel_slN, bel_clX, bel_encX]); simp [evRes, getT, retV, Tryd.f34,  tx, h5]
/-- what Format answers -/
def fmtL (l : List Nd) (s : List UInt8) (e : Int) : Prop := e = checkP 1000000000 l ∧ ((checkP 1000000000 l = 0 ∧ ∃ p, okP 1000000000 p ∧ l = flat p ∧ l.length ≤ 24 ∧ s = tx p) ∨ (checkP 1000000000 l ≠ 0 ∧ s = []))
theorem fmtL_ex (l : List Nd) : ∃ s e, fmtL l s e := by
  by_cases h : checkP 1000000000 l = 0
  · obtain ⟨h24, p, hp, hf⟩ := checkP_tree h
    exact ⟨_, _, rfl, .inl ⟨h, p, hp, hf, h24, rfl⟩⟩
  · exact ⟨_, _, rfl, .inr ⟨h, rfl⟩⟩
theorem pc17 (l : List Nd) (hl : l.length ≤ 4000000) (s : List UInt8) (e : Int) (h : fmtL l s e) : PC Tryd.prog 17 [slN l] (.tup [.str s, .int .i64 e]) := by
  obtain ⟨he, ⟨hc, p, hp, hf, h24, hs⟩ | ⟨hc, hs⟩⟩ := h
  · subst hf hs
    have i1 := pc34 p hp hl
    rw [encX] at i1
    refine PC.walk tok mixed cfg0 Tryd.func17 rfl Tryd.call17 (by simp [belN, bel_Ns, bel_slN, bel_clX, bel_encX]) (by first | rfl | simp [belN, bel_Ns, bel_slN, bel_clX, bel_encX]) ?_; simp (maxSteps := 2000000) -implicitDefEqProofs +contextual (disch := first | assumption | omega | decide +kernel) only [push_cast, ↓capI, br2_true, br2_false, frk_tt, frk_tf, frk_f, frkD_tt, frkD_tf, frkD_f, pk2_true, pk2_false, imp_true, seval, Nat.reduceLeDiff, Nat.reduceEqDiff, reduceCtorEq, ↓reduceIte, fmN, fm0, take_N, toN1, slN_nil, encN, slN, cfg0, get_flat_part lenN, get_flat_drop lenN, len_flat lenN, encX, ibeq_dec, Tryd.ntmps17]
    refine callO.pc (wf_ok hp h24) ?_
    simp (maxSteps := 2000000) -implicitDefEqProofs +contextual (disch := first | assumption | omega | decide +kernel) only [push_cast, ↓capI, br2_true, br2_false, frk_tt, frk_tf, frk_f, frkD_tt, frkD_tf, frkD_f, pk2_true, pk2_false, imp_true, seval, Nat.reduceLeDiff, Nat.reduceEqDiff, reduceCtorEq, ↓reduceIte, fmN, fm0, take_N, toN1, slN_nil, encN, slN, cfg0, get_flat_part lenN, get_flat_drop lenN, len_flat lenN, encX, ibeq_dec]
    refine callO.pc i1 ?_
    simp (maxSteps := 2000000) -implicitDefEqProofs +contextual (disch := first | assumption | omega | decide +kernel) only [push_cast, ↓capI, br2_true, br2_false, frk_tt, frk_tf, frk_f, frkD_tt, frkD_tf, frkD_f, pk2_true, pk2_false, imp_true, seval, Nat.reduceLeDiff, Nat.reduceEqDiff, reduceCtorEq, ↓reduceIte, fmN, fm0, take_N, toN1, slN_nil, encN, slN, cfg0, get_flat_part lenN, get_flat_drop lenN, len_flat lenN, encX, ibeq_dec]
    refine endK.ret ?_ (by first | rfl | simp [belN, bel_Ns, bel_slN, bel_clX, bel_encX]); simp [evRes, getT, retV, Tryd.f17,  he, hc]
  · refine PC.walk tok mixed cfg0 Tryd.func17 rfl Tryd.call17 (by simp [belN, bel_Ns, bel_slN, bel_clX, bel_encX]) (by first | rfl | simp [belN, bel_Ns, bel_slN, bel_clX, bel_encX]) ?_; simp (maxSteps := 2000000) -implicitDefEqProofs +contextual (disch := first | assumption | omega | decide +kernel) only [push_cast, ↓capI, br2_true, br2_false, frk_tt, frk_tf, frk_f, frkD_tt, frkD_tf, frkD_f, pk2_true, pk2_false, imp_true, seval, Nat.reduceLeDiff, Nat.reduceEqDiff, reduceCtorEq, ↓reduceIte, fmN, fm0, take_N, toN1, slN_nil, encN, slN, cfg0, get_flat_part lenN, get_flat_drop lenN, len_flat lenN, encX, ibeq_dec, Tryd.ntmps17]
    refine callO.pc (wf_no hl hc) ?_
    simp (maxSteps := 2000000) -implicitDefEqProofs +contextual (disch := first | assumption | omega | decide +kernel) only [push_cast, ↓capI, br2_true, br2_false, frk_tt, frk_tf, frk_f, frkD_tt, frkD_tf, frkD_f, pk2_true, pk2_false, imp_true, seval, Nat.reduceLeDiff, Nat.reduceEqDiff, reduceCtorEq, ↓reduceIte, fmN, fm0, take_N, toN1, slN_nil, encN, slN, cfg0, get_flat_part lenN, get_flat_drop lenN, len_flat lenN, encX, ibeq_dec, hc]
    refine endK.ret ?_ (by first | rfl | simp [belN, bel_Ns, bel_slN, bel_clX, bel_encX]); simp [evRes, getT, retV, Tryd.f17,  he, hs]
theorem pc20 (l : List Nd) (hl : l.length ≤ 4000000) (s : List UInt8) (e : Int) (h : fmtL l s e) : PC Tryd.prog 20 [slN l] (.str s) := by
  refine PC.walk tok mixed cfg0 Tryd.func20 rfl Tryd.call20 (by simp [belN, bel_Ns, bel_slN, bel_clX, bel_encX]) (by first | rfl | simp [belN, bel_Ns, bel_slN, bel_clX, bel_encX]) ?_; simp (maxSteps := 2000000) -implicitDefEqProofs +contextual (disch := first | assumption | omega | decide +kernel) only [push_cast, ↓capI, br2_true, br2_false, frk_tt, frk_tf, frk_f, frkD_tt, frkD_tf, frkD_f, pk2_true, pk2_false, imp_true, seval, Nat.reduceLeDiff, Nat.reduceEqDiff, reduceCtorEq, ↓reduceIte, fmN, fm0, take_N, toN1, slN_nil, encN, slN, cfg0, get_flat_part lenN, get_flat_drop lenN, len_flat lenN, encX, ibeq_dec, Tryd.ntmps20]
  refine callO.pc (pc17 l hl s e h) ?_
  simp (maxSteps := 2000000) -implicitDefEqProofs +contextual (disch := first | assumption | omega | decide +kernel) only [push_cast, ↓capI, br2_true, br2_false, frk_tt, frk_tf, frk_f, frkD_tt, frkD_tf, frkD_f, pk2_true, pk2_false, imp_true, seval, Nat.reduceLeDiff, Nat.reduceEqDiff, reduceCtorEq, ↓reduceIte, fmN, fm0, take_N, toN1, slN_nil, encN, slN, cfg0, get_flat_part lenN, get_flat_drop lenN, len_flat lenN, encX, ibeq_dec]
  refine endK.ret ?_ (by first | rfl | simp [belN, bel_Ns, bel_slN, bel_clX, bel_encX]); simp [evRes, getT, retV, Tryd.f20]
end Go.Proofs.YtginpkchjeooeaaDoor

/- Chapter 41: the nodes of a tree, and Parse, by the program. -/
set_option maxRecDepth 100000
set_option maxHeartbeats 4000000
set_option linter.all false
namespace Go.Proofs.YtginpkchjeooeaaDoor
open Go.Vm

def cfgS : Cfg := { lv := [], ef := [13], ord := [], em := [], fl := [6] }
def cfgP : Cfg := { lv := [], ef := [17, 20], ord := [], em := [], fl := [6, 8, 11] }
/-- whose operators use no numbers in vain -/
def nice : Pr → Prop
  | .leaf x => nN x = x.n
  | .un x p => x = op0 6 ∧ nice p
  | .bin x p q => x.n = 0 ∧ nice p ∧ nice q
def nodF : Pr → Nat
  | .leaf _ => 121
  | .un _ _ => 122
  | .bin _ _ _ => 123
def NodC (p : Pr) : Prop := ∀ (k : Nat) (l : List Nd), l.length + (flat p).length ≤ 4000000 →
  GCall Tryd.prog (nodF p) [.agg (clX p), .buf 0 k 0 l.length 2] [.cells k (l.flatMap encN)] (.buf 0 (k + (flat p).length) 0 (l.length + (flat p).length) 2) [.cells (k + (flat p).length) ((l ++ flat p).flatMap encN)]
theorem nod_leaf (x : Nd) (h : nice (.leaf x)) : NodC (.leaf x) := by
  intro k l hl
  rw [nice] at h
  simp only [flat, List.length_singleton] at hl ⊢
  refine GC.walk tok mixed cfg0 Tryd.func121 rfl Tryd.call121 ?_; simp (maxSteps := 2000000) -implicitDefEqProofs +contextual (disch := first | assumption | omega | decide +kernel) only [push_cast, ↓capI, br2_true, br2_false, frk_tt, frk_tf, frk_f, frkD_tt, frkD_tf, frkD_f, pk2_true, pk2_false, imp_true, seval, Nat.reduceLeDiff, Nat.reduceEqDiff, reduceCtorEq, ↓reduceIte, fmN, fm0, take_N, toN1, slN_nil, encN, slN, cfg0, cfgS, cfgP, get_flat_part lenN, get_flat_drop lenN, len_flat lenN, V.rn, rns, qn, setPs, rnOs, Ob.rn, List.set_cons_zero, List.size_toArray, encX, rn_clX, List.flatMap_append, Tryd.ntmps121]
  simp (maxSteps := 2000000) -implicitDefEqProofs +contextual (disch := first | assumption | omega | decide +kernel) only [push_cast, ↓capI, br2_true, br2_false, frk_tt, frk_tf, frk_f, frkD_tt, frkD_tf, frkD_f, pk2_true, pk2_false, imp_true, seval, Nat.reduceLeDiff, Nat.reduceEqDiff, reduceCtorEq, ↓reduceIte, fmN, fm0, take_N, toN1, slN_nil, encN, slN, cfg0, cfgS, cfgP, get_flat_part lenN, get_flat_drop lenN, len_flat lenN, V.rn, rns, qn, setPs, rnOs, Ob.rn, List.set_cons_zero, List.size_toArray, encX, rn_clX, List.flatMap_append, clX, h]
  refine endG.ret ([_]) (by first | rfl | simp [fmN, fm0, belN, bel_Ns, bel_slN, bel_clX, bel_encX, fzs_ok, getO, setO, fzs, fz, fzH, Nat.beq, fmN, fm0, take_N, toN1, slN_nil, encN, slN, cfg0, cfgS, cfgP, get_flat_part lenN, get_flat_drop lenN, len_flat lenN, V.rn, rns, qn, setPs, rnOs, Ob.rn, List.set_cons_zero, List.size_toArray, encX, rn_clX, List.flatMap_append, belAll_append]) (by simp) (by simp [fmN, fm0, belN, bel_Ns, bel_slN, bel_clX, bel_encX, fzs_ok, imp, lenOK_iff, List.take_of_length_le, evRes, getT, getO, setO, fzs, fz, fzH, Nat.beq, retV, Res.then, ldT, ldR, mkV, getV, fmN, fm0, take_N, toN1, slN_nil, encN, slN, cfg0, cfgS, cfgP, get_flat_part lenN, get_flat_drop lenN, len_flat lenN, V.rn, rns, qn, setPs, rnOs, Ob.rn, List.set_cons_zero, List.size_toArray, encX, rn_clX, List.flatMap_append, Tryd.f121, belAll_append]) (by first | rfl | simp [fmN, fm0, belN, bel_Ns, bel_slN, bel_clX, bel_encX, belAll_append]) (by first | rfl | simp [fmN, fm0, belN, bel_Ns, bel_slN, bel_clX, bel_encX, belAll_append])
theorem mt74 : MethAt Tryd.prog 74 "patchbay/pathexpr.nodes" 121 := methAt (by kernel_rfl)
theorem mt76 : MethAt Tryd.prog 76 "patchbay/pathexpr.nodes" 122 := methAt (by kernel_rfl)
theorem mt78 : MethAt Tryd.prog 78 "patchbay/pathexpr.nodes" 123 := methAt (by kernel_rfl)
theorem mtX (p : Pr) : MethAt Tryd.prog (tgX p) "patchbay/pathexpr.nodes" (nodF p) := by
  cases p
  · exact mt74
  · exact mt76
  · exact mt78
theorem rn_Ns {q : Nat → Nat} {l : List Nd} : rns q (l.flatMap encN) = l.flatMap encN := rns_ok (bel_Ns l)
theorem rns_app {q : Nat → Nat} : ∀ {a b : List V}, rns q (a ++ b) = rns q a ++ rns q b
  | [], _ => rfl
  | x :: a, b => by rw [List.cons_append, rns, rns, List.cons_append, rns_app]
theorem fz_Ns {id ver : Nat} {c : List V} {l : List Nd} : fzs id ver c (l.flatMap encN) = l.flatMap encN := fzs_lt _ (bel_Ns l)
theorem fz_clX {id ver : Nat} {c : List V} {p : Pr} : fzs id ver c (clX p) = clX p := fzs_lt _ (bel_clX p)
theorem nod_un (x : Nd) (p : Pr) (h : nice (.un x p)) (ih : NodC p) : NodC (.un x p) := by
  intro k l hl
  obtain ⟨rfl, hp⟩ := h
  simp only [flat, List.length_cons] at hl ⊢
  have i1 := ih (k + 1) (l ++ [op0 6]) (by rw [List.length_append, List.length_singleton]; omega)
  simp only [List.length_append, List.length_singleton] at i1
  refine GC.cutN tok mixed cfgS 0 Tryd.func122 rfl Tryd.call122 ?_
  simp (maxSteps := 2000000) -implicitDefEqProofs +contextual (disch := first | assumption | omega | decide +kernel) only [push_cast, ↓capI, br2_true, br2_false, frk_tt, frk_tf, frk_f, frkD_tt, frkD_tf, frkD_f, pk2_true, pk2_false, imp_true, seval, Nat.reduceLeDiff, Nat.reduceEqDiff, reduceCtorEq, ↓reduceIte, fmN, fm0, take_N, toN1, slN_nil, encN, slN, cfg0, cfgS, cfgP, get_flat_part lenN, get_flat_drop lenN, len_flat lenN, V.rn, rns, qn, setPs, rnOs, Ob.rn, List.set_cons_zero, List.size_toArray, encX, rn_clX, List.flatMap_append, Tryd.ntmps122, clX, cutAt_z, cutAt_s]
  refine cutK.gn (Gn.freeze (id := 1) rfl) (cutK.go (cfg := cfgS) tok mixed ?_)
  simp (maxSteps := 2000000) -implicitDefEqProofs +contextual (disch := first | assumption | omega | decide +kernel) only [push_cast, ↓capI, br2_true, br2_false, frk_tt, frk_tf, frk_f, frkD_tt, frkD_tf, frkD_f, pk2_true, pk2_false, imp_true, seval, Nat.reduceLeDiff, Nat.reduceEqDiff, reduceCtorEq, ↓reduceIte, fmN, fm0, take_N, toN1, slN_nil, encN, slN, cfg0, cfgS, cfgP, get_flat_part lenN, get_flat_drop lenN, len_flat lenN, V.rn, rns, qn, setPs, rnOs, Ob.rn, List.set_cons_zero, List.size_toArray, encX, rn_clX, List.flatMap_append, fzs, fz, fzH, fz_Ns, fz_clX, setO, getO, Nat.beq, List.take_of_length_le, List.drop_zero, fzs_ok, clX]
  refine callI.of (mtX p) (callO.part0 [0] i1 (by decide) rfl (by simp [V.rn, rns, qn, rn_clX]) ⟨by simp [getO, rnOs, Ob.rn, rns_app, rn_Ns, fmN, fm0, encN, op0, List.flatMap_append, rns, V.rn], by simp, trivial⟩ ?_)
  simp (maxSteps := 2000000) -implicitDefEqProofs +contextual (disch := first | assumption | omega | decide +kernel) only [push_cast, ↓capI, br2_true, br2_false, frk_tt, frk_tf, frk_f, frkD_tt, frkD_tf, frkD_f, pk2_true, pk2_false, imp_true, seval, Nat.reduceLeDiff, Nat.reduceEqDiff, reduceCtorEq, ↓reduceIte, fmN, fm0, take_N, toN1, slN_nil, encN, slN, cfg0, cfgS, cfgP, get_flat_part lenN, get_flat_drop lenN, len_flat lenN, V.rn, rns, qn, setPs, rnOs, Ob.rn, List.set_cons_zero, List.size_toArray, encX, rn_clX, List.flatMap_append, rns_app, rn_Ns]
  refine endG.ret ([.dead]) (by first | rfl | simp [fmN, fm0, belN, bel_Ns, bel_slN, bel_clX, bel_encX, fzs_ok, getO, setO, fzs, fz, fzH, Nat.beq, fmN, fm0, take_N, toN1, slN_nil, encN, slN, cfg0, cfgS, cfgP, get_flat_part lenN, get_flat_drop lenN, len_flat lenN, V.rn, rns, qn, setPs, rnOs, Ob.rn, List.set_cons_zero, List.size_toArray, encX, rn_clX, List.flatMap_append, belAll_append, op0, encN, fmN, fm0, rn_Ns, rns_app, Nat.add_assoc, Nat.add_comm 1]) (by simp) (by simp [fmN, fm0, belN, bel_Ns, bel_slN, bel_clX, bel_encX, fzs_ok, imp, lenOK_iff, List.take_of_length_le, evRes, getT, getO, setO, fzs, fz, fzH, Nat.beq, retV, Res.then, ldT, ldR, mkV, getV, fmN, fm0, take_N, toN1, slN_nil, encN, slN, cfg0, cfgS, cfgP, get_flat_part lenN, get_flat_drop lenN, len_flat lenN, V.rn, rns, qn, setPs, rnOs, Ob.rn, List.set_cons_zero, List.size_toArray, encX, rn_clX, List.flatMap_append, Tryd.f122, belAll_append, op0, encN, fmN, fm0, rn_Ns, rns_app, Nat.add_assoc, Nat.add_comm 1]) (by first | rfl | simp [fmN, fm0, belN, bel_Ns, bel_slN, bel_clX, bel_encX, belAll_append, op0, encN, fmN, fm0, rn_Ns, rns_app, Nat.add_assoc, Nat.add_comm 1]) (by first | rfl | simp [fmN, fm0, belN, bel_Ns, bel_slN, bel_clX, bel_encX, belAll_append, op0, encN, fmN, fm0, rn_Ns, rns_app, Nat.add_assoc, Nat.add_comm 1])
theorem nod_bin (x : Nd) (p q : Pr) (h : nice (.bin x p q)) (ih : NodC p) (jh : NodC q) : NodC (.bin x p q) := by
  intro k l hl
  obtain ⟨hx, hp, hq⟩ := h
  simp only [flat, List.length_cons, List.length_append] at hl ⊢
  have i1 := ih (k + 1) (l ++ [x]) (by rw [List.length_append, List.length_singleton]; omega)
  have i2 := jh (k + 1 + (flat p).length) (l ++ [x] ++ flat p) (by rw [List.length_append, List.length_append, List.length_singleton]; omega)
  simp only [List.length_append, List.length_singleton] at i1 i2
  refine GC.cutN tok mixed cfgP 0 Tryd.func123 rfl Tryd.call123 ?_
  simp (maxSteps := 2000000) -implicitDefEqProofs +contextual (disch := first | assumption | omega | decide +kernel) only [push_cast, ↓capI, br2_true, br2_false, frk_tt, frk_tf, frk_f, frkD_tt, frkD_tf, frkD_f, pk2_true, pk2_false, imp_true, seval, Nat.reduceLeDiff, Nat.reduceEqDiff, reduceCtorEq, ↓reduceIte, fmN, fm0, take_N, toN1, slN_nil, encN, slN, cfg0, cfgS, cfgP, get_flat_part lenN, get_flat_drop lenN, len_flat lenN, V.rn, rns, qn, setPs, rnOs, Ob.rn, List.set_cons_zero, List.size_toArray, encX, rn_clX, List.flatMap_append, Tryd.ntmps123, clX, cutAt_z, cutAt_s]
  refine cutK.gn (Gn.freeze (id := 1) rfl) (cutK.go (cfg := cfgP) tok mixed ?_)
  simp (maxSteps := 2000000) -implicitDefEqProofs +contextual (disch := first | assumption | omega | decide +kernel) only [push_cast, ↓capI, br2_true, br2_false, frk_tt, frk_tf, frk_f, frkD_tt, frkD_tf, frkD_f, pk2_true, pk2_false, imp_true, seval, Nat.reduceLeDiff, Nat.reduceEqDiff, reduceCtorEq, ↓reduceIte, fmN, fm0, take_N, toN1, slN_nil, encN, slN, cfg0, cfgS, cfgP, get_flat_part lenN, get_flat_drop lenN, len_flat lenN, V.rn, rns, qn, setPs, rnOs, Ob.rn, List.set_cons_zero, List.size_toArray, encX, rn_clX, List.flatMap_append, fzs, fz, fzH, fz_Ns, fz_clX, setO, getO, Nat.beq, List.take_of_length_le, List.drop_zero, fzs_ok, clX]
  refine callI.of (mtX p) (callO.part0 [0] i1 (by decide) rfl (by simp [V.rn, rns, qn, rn_clX]) ⟨by simp [getO, rnOs, Ob.rn, rns_app, rn_Ns, fmN, fm0, encN, op0, List.flatMap_append, rns, V.rn, hx], by simp, trivial⟩ ?_)
  simp (maxSteps := 2000000) -implicitDefEqProofs +contextual (disch := first | assumption | omega | decide +kernel) only [push_cast, ↓capI, br2_true, br2_false, frk_tt, frk_tf, frk_f, frkD_tt, frkD_tf, frkD_f, pk2_true, pk2_false, imp_true, seval, Nat.reduceLeDiff, Nat.reduceEqDiff, reduceCtorEq, ↓reduceIte, fmN, fm0, take_N, toN1, slN_nil, encN, slN, cfg0, cfgS, cfgP, get_flat_part lenN, get_flat_drop lenN, len_flat lenN, V.rn, rns, qn, setPs, rnOs, Ob.rn, List.set_cons_zero, List.size_toArray, encX, rn_clX, List.flatMap_append, rns_app, rn_Ns, hx]
  refine callI.of (mtX q) (callO.part0 [0] i2 (by decide) rfl (by simp [V.rn, rns, qn, rn_clX]) ⟨by simp [getO, rnOs, Ob.rn, rns_app, rn_Ns, fmN, fm0, encN, op0, List.flatMap_append, rns, V.rn, hx], by simp, trivial⟩ ?_)
  simp (maxSteps := 2000000) -implicitDefEqProofs +contextual (disch := first | assumption | omega | decide +kernel) only [push_cast, ↓capI, br2_true, br2_false, frk_tt, frk_tf, frk_f, frkD_tt, frkD_tf, frkD_f, pk2_true, pk2_false, imp_true, seval, Nat.reduceLeDiff, Nat.reduceEqDiff, reduceCtorEq, ↓reduceIte, fmN, fm0, take_N, toN1, slN_nil, encN, slN, cfg0, cfgS, cfgP, get_flat_part lenN, get_flat_drop lenN, len_flat lenN, V.rn, rns, qn, setPs, rnOs, Ob.rn, List.set_cons_zero, List.size_toArray, encX, rn_clX, List.flatMap_append, rns_app, rn_Ns, hx]
  refine endG.ret ([.dead]) (by first | rfl | simp [fmN, fm0, belN, bel_Ns, bel_slN, bel_clX, bel_encX, fzs_ok, getO, setO, fzs, fz, fzH, Nat.beq, fmN, fm0, take_N, toN1, slN_nil, encN, slN, cfg0, cfgS, cfgP, get_flat_part lenN, get_flat_drop lenN, len_flat lenN, V.rn, rns, qn, setPs, rnOs, Ob.rn, List.set_cons_zero, List.size_toArray, encX, rn_clX, List.flatMap_append, belAll_append, op0, encN, fmN, fm0, rn_Ns, rns_app, hx, Nat.add_assoc, Nat.add_comm 1]) (by simp) (by simp [fmN, fm0, belN, bel_Ns, bel_slN, bel_clX, bel_encX, fzs_ok, imp, lenOK_iff, List.take_of_length_le, evRes, getT, getO, setO, fzs, fz, fzH, Nat.beq, retV, Res.then, ldT, ldR, mkV, getV, fmN, fm0, take_N, toN1, slN_nil, encN, slN, cfg0, cfgS, cfgP, get_flat_part lenN, get_flat_drop lenN, len_flat lenN, V.rn, rns, qn, setPs, rnOs, Ob.rn, List.set_cons_zero, List.size_toArray, encX, rn_clX, List.flatMap_append, Tryd.f123, belAll_append, op0, encN, fmN, fm0, rn_Ns, rns_app, hx, Nat.add_assoc, Nat.add_comm 1]) (by first | rfl | simp [fmN, fm0, belN, bel_Ns, bel_slN, bel_clX, bel_encX, belAll_append, op0, encN, fmN, fm0, rn_Ns, rns_app, hx, Nat.add_assoc, Nat.add_comm 1]) (by first | rfl | simp [fmN, fm0, belN, bel_Ns, bel_slN, bel_clX, bel_encX, belAll_append, op0, encN, fmN, fm0, rn_Ns, rns_app, hx, Nat.add_assoc, Nat.add_comm 1])
theorem nod_all : ∀ p, nice p → NodC p
  | .leaf x, h => nod_leaf x h
  | .un x p, h => nod_un x p h (nod_all p h.2)
  | .bin x p q, h => nod_bin x p q h (nod_all p h.2.1) (nod_all q h.2.2)
def slM (l : List Nd) : V := if l = [] then .sl true [] 0 else slN l
theorem slM_nil : slM [] = .sl true [] 0 := rfl
theorem bel_slM {n : Nat} (l : List Nd) : (slM l).bel n = true := by
  unfold slM
  split
  · rfl
  · exact bel_slN l
theorem slM_cons {l : List Nd} (h : l ≠ []) : slM l = slN l := by rw [slM, if_neg h]
theorem flat_ne (p : Pr) : flat p ≠ [] := by
  have := flat_pos p
  intro e
  rw [e] at this
  cases this
def parQ (s : List UInt8) : PR → List Nd × Int
  | some (p, []) => if 24 < (flat p).length then ([], 12) else if tx p = s then (flat p, 0) else ([], 23)
  | _ => ([], 5)
def parP (s : List UInt8) : List Nd × Int := if 16384 < s.length then ([], 4) else parQ s (pOr (s.length + 1) s)
def encMI (r : List Nd × Int) : V := .tup [slM r.1, .int .i64 r.2]
theorem bel_MI {n : Nat} {r : List Nd × Int} : (encMI r).bel n = true := by simp [encMI, bel_tup, belAll_cons, belAll_nil, bel_slM, bel_int]
/-- what the readers make is tidy -/
theorem lst_nice {nx : List UInt8 → PR} (h : ∀ s p r, nx s = some (p, r) → nice p) {o : Int} {c : UInt8} : ∀ k x s p r, nice x → lst nx o c k x s = some (p, r) → nice p
  | 0, x, s, p, r, _, e => by cases e
  | k + 1, x, s, p, r, hx, e => by
    rw [lst] at e
    split at e
    · cases hn : nx (s.drop 1) with
      | none => rw [hn] at e; cases e
      | some q =>
        obtain ⟨y, t⟩ := q
        rw [hn] at e
        exact lst_nice h k _ _ _ _ (show nice (.bin (op0 o) x y) from ⟨rfl, hx, h _ _ _ hn⟩) e
    · cases e
      exact hx
theorem lstP_nice {nx : List UInt8 → PR} (h : ∀ s p r, nx s = some (p, r) → nice p) {o : Int} {c : UInt8} : ∀ s p r, lstP nx o c s = some (p, r) → nice p := by
  intro s p r e
  rw [lstP] at e
  cases hn : nx s with
  | none => rw [hn] at e; cases e
  | some q =>
    obtain ⟨y, t⟩ := q
    rw [hn] at e
    exact lst_nice h _ _ _ _ _ (h _ _ _ hn) e
theorem strs_nice : ∀ k p s, nice p → nice (strs k p s).1
  | 0, p, s, h => h
  | k + 1, p, s, h => by
    rw [strs]
    split
    · exact strs_nice k _ _ (show nice (.un (op0 6) p) from ⟨rfl, h⟩)
    · exact h
theorem pStr_nice {nx : List UInt8 → PR} (h : ∀ s p r, nx s = some (p, r) → nice p) : ∀ s p r, pStr nx s = some (p, r) → nice p := by
  intro s p r e
  rw [pStr] at e
  cases hn : nx s with
  | none => rw [hn] at e; cases e
  | some q =>
    obtain ⟨y, t⟩ := q
    rw [hn] at e
    have h2 := strs_nice (t.length + 1) y t (h _ _ _ hn)
    simp only [Option.some.injEq] at e
    rw [e] at h2
    exact h2
theorem pAtm_nice : ∀ k s p r, pAtm k s = some (p, r) → nice p
  | 0, s, p, r, e => by cases e
  | k + 1, s, p, r, e => by
    rw [pAtm] at e
    split at e
    · cases e; rfl
    split at e
    · cases e; rfl
    split at e
    · cases hn : lstP (lstP (pStr (pAtm k)) 4 44) 5 124 (s.drop 1) with
      | none => rw [hn] at e; cases e
      | some q =>
        obtain ⟨y, t⟩ := q
        rw [hn] at e
        simp only at e
        split at e
        · cases e
          exact lstP_nice (lstP_nice (pStr_nice (pAtm_nice k))) _ _ _ hn
        · cases e
    · rw [pNumb] at e
      split at e
      · cases e; rfl
      · cases e
theorem pOr_nice (k : Nat) : ∀ s p r, pOr k s = some (p, r) → nice p := lstP_nice (lstP_nice (pStr_nice (pAtm_nice k)))
theorem nodes0 (p : Pr) (h : nice p) (hl : (flat p).length ≤ 4000000) : GCall Tryd.prog (nodF p) [.agg (clX p), .sl true [] 0] [] (.buf 0 (flat p).length 0 (flat p).length 2) [.cells (flat p).length ((flat p).flatMap encN)] := by
  have := nod_all p h 0 [] (by simpa using hl)
  simp only [List.length_nil, Nat.zero_add, List.nil_append, List.flatMap_nil] at this
  exact GCall.own (a := [.agg (clX p)]) (b := []) this
end Go.Proofs.YtginpkchjeooeaaDoor


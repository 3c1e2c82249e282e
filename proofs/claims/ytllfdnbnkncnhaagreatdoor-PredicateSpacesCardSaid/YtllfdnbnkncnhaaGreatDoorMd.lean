/-
  Joined by a program from the texts Join Space Prs Prn Prl Prm Par.
-/
import Derived.Test.YtllfdnbnkncnhaaGreatDoorMb
import Derived.Test.YtllfdnbnkncnhaaGreatDoorMa
import Derived.Test.YtllfdnbnkncnhaaGreatDoorMc
/- Chapter 44: join, the predicate of a cube. -/
set_option maxRecDepth 100000
set_option maxHeartbeats 4000000
set_option linter.all false
namespace Go.Proofs.YtllfdnbnkncnhaaGreatDoor
open Go.Vm

theorem ones_N : ∀ {xs : List Nd}, ones true (xs.flatMap encN) True = True
  | [] => rfl
  | x :: xs => by simp only [List.flatMap_cons, encN, List.cons_append, List.nil_append, ones, V.one]; exact ones_N
def cfgJ : Cfg := ⟨[10], [], [], []⟩
def jn (o : Int) (a b : List Nd) : List Nd := ⟨o, 0, 0, 0⟩ :: (a ++ b)
theorem jn_len (o : Int) (a b : List Nd) : (jn o a b).length = a.length + b.length + 1 := by
  rw [jn, List.length_cons, List.length_append]
def slM (l : List Nd) : V := if l = [] then .sl true [] 0 else slN l
theorem bel_slM {n : Nat} (l : List Nd) : (slM l).bel n = true := by
  unfold slM
  split
  · rfl
  · exact bel_slN l
theorem pc29 (o : Int) (a b : List Nd) (ha : a.length ≤ 4000000) (hb : b.length ≤ 4000000) : PC Tryz.prog 29 [.int .i64 o, slN a, slN b] (slN (jn o a b)) := by
  refine PC.walk tok mixed  cfgJ Tryz.func29 rfl Tryz.call29 (by simp [bel_slM, bel_LN, fmN, fm0, belN, bel_Ns, bel_slN, belF, belAll_append, belC, bel_Cs, bel_slC]) (by first | rfl | simp [bel_slM, bel_LN, fmN, fm0, belN, bel_Ns, bel_slN, belF, belAll_append, belC, bel_Cs, bel_slC]) ?_; simp (config := { maxSteps := 2000000 }) -implicitDefEqProofs +contextual (disch := first | assumption | omega | decide +kernel) only [push_cast, ↓capI, br2_true, br2_false, frk_tt, frk_tf, frk_f, frkD_tt, frkD_tf, frkD_f, pk2_true, pk2_false, imp_true, seval, Nat.reduceLeDiff, Nat.reduceEqDiff, reduceCtorEq, ↓reduceIte, reduceCtorEq, and8, fmN, fm0, ones_N, take_N, toN1, slN_nil, encN, encC, encF, slN, slC, cfg0, cfgJ, get_flat_part lenN, get_flat_drop lenN, len_flat lenN, get_flat_part lenC, get_flat_drop lenC, len_flat lenC, Tryz.ntmps29,  cfgJ]
  refine endK.gn (Gn.freeze (id := 0) rfl) ?_; refine endK.ret ?_ (by first | rfl | simp [bel_slM, bel_LN, fmN, fm0, belN, bel_Ns, bel_slN, belF, belAll_append, belC, bel_Cs, bel_slC]); simp [bel_slM, bel_LN, fmN, fm0, belN, bel_Ns, bel_slN, belF, belAll_append, belC, bel_Cs, bel_slC, fzs_ok, imp, lenOK_iff, List.take_of_length_le, evRes, getT, getO, setO, fzs, fz, fzH, Nat.beq, retV, Res.then, ldT, ldR, mkV, getV, and8, fmN, fm0, ones_N, take_N, toN1, slN_nil, tt_3, tt_4, tt_5, tt_9, tt_22, tt_42, tt_26, tt_43, tt_25, tt_56, tt_36, tt_63, encN, encC, encF, slN, slC, cfg0, cfgJ, get_flat_part lenN, get_flat_drop lenN, len_flat lenN, get_flat_part lenC, get_flat_drop lenC, len_flat lenC, Tryz.f29,  slN, jn]
  exact ⟨List.take_of_length_le (by simp [len_flat lenN]; omega), by omega⟩
theorem pc48 (o : Int) (a b : List Nd) (ha : a.length ≤ 4000000) (hb : b.length ≤ 4000000) : PC Tryz.prog 48 [.int .i64 o, slN a, slN b] (slN (jn o a b)) := by
  refine PC.walk tok mixed  cfgJ Tryz.func48 rfl Tryz.call48 (by simp [bel_slM, bel_LN, fmN, fm0, belN, bel_Ns, bel_slN, belF, belAll_append, belC, bel_Cs, bel_slC]) (by first | rfl | simp [bel_slM, bel_LN, fmN, fm0, belN, bel_Ns, bel_slN, belF, belAll_append, belC, bel_Cs, bel_slC]) ?_; simp (config := { maxSteps := 2000000 }) -implicitDefEqProofs +contextual (disch := first | assumption | omega | decide +kernel) only [push_cast, ↓capI, br2_true, br2_false, frk_tt, frk_tf, frk_f, frkD_tt, frkD_tf, frkD_f, pk2_true, pk2_false, imp_true, seval, Nat.reduceLeDiff, Nat.reduceEqDiff, reduceCtorEq, ↓reduceIte, reduceCtorEq, and8, fmN, fm0, ones_N, take_N, toN1, slN_nil, encN, encC, encF, slN, slC, cfg0, cfgJ, get_flat_part lenN, get_flat_drop lenN, len_flat lenN, get_flat_part lenC, get_flat_drop lenC, len_flat lenC, Tryz.ntmps48,  cfgJ]
  refine endK.gn (Gn.freeze (id := 0) rfl) ?_; refine endK.ret ?_ (by first | rfl | simp [bel_slM, bel_LN, fmN, fm0, belN, bel_Ns, bel_slN, belF, belAll_append, belC, bel_Cs, bel_slC]); simp [bel_slM, bel_LN, fmN, fm0, belN, bel_Ns, bel_slN, belF, belAll_append, belC, bel_Cs, bel_slC, fzs_ok, imp, lenOK_iff, List.take_of_length_le, evRes, getT, getO, setO, fzs, fz, fzH, Nat.beq, retV, Res.then, ldT, ldR, mkV, getV, and8, fmN, fm0, ones_N, take_N, toN1, slN_nil, tt_3, tt_4, tt_5, tt_9, tt_22, tt_42, tt_26, tt_43, tt_25, tt_56, tt_36, tt_63, encN, encC, encF, slN, slC, cfg0, cfgJ, get_flat_part lenN, get_flat_drop lenN, len_flat lenN, get_flat_part lenC, get_flat_drop lenC, len_flat lenC, Tryz.f48,  slN, jn]
  exact ⟨List.take_of_length_le (by simp [len_flat lenN]; omega), by omega⟩
def mb (c : Cu) (i : Nat) : UInt8 := fval (decf c.m.toNat) i
def nd (c : Cu) (i : Nat) : Nd := ⟨3, i, fval (decf c.v.toNat) i &&& mb c i, mb c i⟩
def cj (c : Cu) : Nat → List Nd
  | 0 => []
  | n + 1 => if mb c n = 0 then cj c n else if cj c n = [] then [nd c n] else jn 5 (cj c n) [nd c n]
theorem slM0 {c : Cu} : slM (cj c 0) = .sl true [] 0 := rfl
theorem slM_cons {l : List Nd} (h : l ≠ []) : slM l = slN l := by rw [slM, if_neg h]
def conj (c : Cu) : List Nd := if cj c 3 = [] then [⟨1, 0, 0, 0⟩] else cj c 3
theorem cj_len (c : Cu) : ∀ n, (cj c n).length ≤ 2 * n
  | 0 => Nat.le_refl _
  | n + 1 => by
    have := cj_len c n
    rw [cj]
    split
    · omega
    split
    · rw [List.length_singleton]; omega
    · rw [jn_len, List.length_singleton]; omega
theorem conj_len (c : Cu) : (conj c).length ≤ 6 := by
  have := cj_len c 3
  unfold conj
  split
  · decide
  · omega
theorem shB (x : W64) (i : Nat) (h : i < 3) : IntKind.u8.wrap (ishr .u64 (x.toNat : Int) (8 * (2 - (i : Int)))) = ((fval (decf x.toNat) i).toNat : Int) := by
  have hx := x.isLt
  have h1 : ishr .u64 (x.toNat : Int) 16 = ((x.toNat / 2 ^ 16 : Nat) : Int) := shrN 16 hx
  have h2 : ishr .u64 (x.toNat : Int) 8 = ((x.toNat / 2 ^ 8 : Nat) : Int) := shrN 8 hx
  have h3 : ishr .u64 (x.toNat : Int) 0 = ((x.toNat / 2 ^ 0 : Nat) : Int) := shrN 0 hx
  have hi : i = 0 ∨ i = 1 ∨ i = 2 := by omega
  rcases hi with rfl | rfl | rfl
  · exact (congrArg IntKind.u8.wrap h1).trans (u8W _)
  · exact (congrArg IntKind.u8.wrap h2).trans (u8W _)
  · refine (congrArg IntKind.u8.wrap h3).trans ((u8W _).trans ?_)
    rw [Nat.pow_zero, Nat.div_one]
    rfl
theorem pc28 (c : Cu) : PC Tryz.prog 28 [.agg (encC c)] (slN (conj c)) := by
  refine PC.walk tok mixed cfg0 Tryz.func28 rfl Tryz.call28 (by simp [bel_slM, bel_LN, fmN, fm0, belN, bel_Ns, bel_slN, belF, belAll_append, belC, bel_Cs, bel_slC]) (by first | rfl | simp [bel_slM, bel_LN, fmN, fm0, belN, bel_Ns, bel_slN, belF, belAll_append, belC, bel_Cs, bel_slC]) ?_; simp (config := { maxSteps := 2000000 }) -implicitDefEqProofs +contextual (disch := first | assumption | omega | decide +kernel) only [push_cast, ↓capI, br2_true, br2_false, frk_tt, frk_tf, frk_f, frkD_tt, frkD_tf, frkD_f, pk2_true, pk2_false, imp_true, seval, Nat.reduceLeDiff, Nat.reduceEqDiff, reduceCtorEq, ↓reduceIte, reduceCtorEq, and8, fmN, fm0, ones_N, take_N, toN1, slN_nil, encN, encC, encF, slN, slC, cfg0, cfgJ, get_flat_part lenN, get_flat_drop lenN, len_flat lenN, get_flat_part lenC, get_flat_drop lenC, len_flat lenC, Tryz.ntmps28]
  refine T.lp tok mixed cfg0 (fun (i : Nat) => dd 1 (kp 1 (dd 1 (sv (slM (cj c i)) (sv (.int .i64 i) (dd 39 (nl))))))) (fun H0 (i : Nat) => [.cells 0 [.int .u64 c.v.toNat, .int .u64 c.m.toNat]]) (fun (i : Nat) => i ≤ 3) (fun (i : Nat) => 3 - i) (0) ?_ ?_ ?_
  · exact Nat.zero_le _
  · exact Gn.canon (J := []) (by first | rfl | (simp [List.append_nil]; done) | (simp [List.append_nil]; rfl)) (by simp [wk, slN, slM0, putT, kp, dd, sv, nl]) (by simp [List.length_append]) (by simp [bel_slM, bel_LN, fmN, fm0, belN, bel_Ns, bel_slN, belF, belAll_append, belC, bel_Cs, bel_slC, kp, dd, sv, nl]) (by simp [bel_slM, bel_LN, fmN, fm0, belN, bel_Ns, bel_slN, belF, belAll_append, belC, bel_Cs, bel_slC])
  intro i hi
  by_cases h : i < 3
  case neg =>
    have h3 : i = 3 := by omega
    subst h3
    by_cases hn : cj c 3 = []
    · simp (config := { maxSteps := 2000000 }) -implicitDefEqProofs +contextual (disch := first | assumption | omega | decide +kernel) only [push_cast, ↓capI, br2_true, br2_false, frk_tt, frk_tf, frk_f, frkD_tt, frkD_tf, frkD_f, pk2_true, pk2_false, imp_true, seval, Nat.reduceLeDiff, Nat.reduceEqDiff, reduceCtorEq, ↓reduceIte, reduceCtorEq, and8, fmN, fm0, ones_N, take_N, toN1, slN_nil, encN, encC, encF, slN, slC, cfg0, cfgJ, get_flat_part lenN, get_flat_drop lenN, len_flat lenN, get_flat_part lenC, get_flat_drop lenC, len_flat lenC, slM, hn]
      refine endK.ret ?_ (by first | rfl | simp [bel_slM, bel_LN, fmN, fm0, belN, bel_Ns, bel_slN, belF, belAll_append, belC, bel_Cs, bel_slC]); simp [evRes, getT, retV, Tryz.f28,  conj, hn, fmN, fm0, slN, encN]
    · have hp : (cj c 3).length ≠ 0 := fun e => hn (List.length_eq_zero_iff.1 e)
      simp (config := { maxSteps := 2000000 }) -implicitDefEqProofs +contextual (disch := first | assumption | omega | decide +kernel) only [push_cast, ↓capI, br2_true, br2_false, frk_tt, frk_tf, frk_f, frkD_tt, frkD_tf, frkD_f, pk2_true, pk2_false, imp_true, seval, Nat.reduceLeDiff, Nat.reduceEqDiff, reduceCtorEq, ↓reduceIte, reduceCtorEq, and8, fmN, fm0, ones_N, take_N, toN1, slN_nil, encN, encC, encF, slN, slC, cfg0, cfgJ, get_flat_part lenN, get_flat_drop lenN, len_flat lenN, get_flat_part lenC, get_flat_drop lenC, len_flat lenC, slM, hn, hp]
      refine endK.ret ?_ (by first | rfl | simp [bel_slM, bel_LN, fmN, fm0, belN, bel_Ns, bel_slN, belF, belAll_append, belC, bel_Cs, bel_slC]); simp [evRes, getT, retV, Tryz.f28,  conj, hn]
  have hc := cj_len c i
  have hm : ((mb c i).toNat : Int) = 0 ↔ mb c i = 0 := by rw [zero8]
  have hsh := shB c.m i h
  have hsv := shB c.v i h
  rw [show fval (decf c.m.toNat) i = mb c i from rfl] at hsh
  by_cases h0 : mb c i = 0
  · have e : cj c (i + 1) = cj c i := by rw [cj, if_pos h0]
    simp (config := { maxSteps := 2000000 }) -implicitDefEqProofs +contextual (disch := first | assumption | omega | decide +kernel) only [push_cast, ↓capI, br2_true, br2_false, frk_tt, frk_tf, frk_f, frkD_tt, frkD_tf, frkD_f, pk2_true, pk2_false, imp_true, seval, Nat.reduceLeDiff, Nat.reduceEqDiff, reduceCtorEq, ↓reduceIte, reduceCtorEq, and8, fmN, fm0, ones_N, take_N, toN1, slN_nil, encN, encC, encF, slN, slC, cfg0, cfgJ, get_flat_part lenN, get_flat_drop lenN, len_flat lenN, get_flat_part lenC, get_flat_drop lenC, len_flat lenC, hsh, hm, h0]
    refine ⟨i + 1, by omega, by (try simp only); omega, ?_⟩; exact Gn.canon (by first | rfl | (simp [List.append_nil, e]; rfl)) (by simp [wk, slN, slM0, e]) (by simp [List.length_append]) (by simp [bel_slM, bel_LN, fmN, fm0, belN, bel_Ns, bel_slN, belF, belAll_append, belC, bel_Cs, bel_slC]) (by simp [bel_slM, bel_LN, fmN, fm0, belN, bel_Ns, bel_slN, belF, belAll_append, belC, bel_Cs, bel_slC])
  by_cases hn : cj c i = []
  · have e : cj c (i + 1) = [nd c i] := by rw [cj, if_neg h0, if_pos hn]
    have e2 : slM (cj c (i + 1)) = slN [nd c i] := by rw [e]; rfl
    have es : slM (cj c i) = .sl true [] 0 := by rw [slM, if_pos hn]
    simp (config := { maxSteps := 2000000 }) -implicitDefEqProofs +contextual (disch := first | assumption | omega | decide +kernel) only [push_cast, ↓capI, br2_true, br2_false, frk_tt, frk_tf, frk_f, frkD_tt, frkD_tf, frkD_f, pk2_true, pk2_false, imp_true, seval, Nat.reduceLeDiff, Nat.reduceEqDiff, reduceCtorEq, ↓reduceIte, reduceCtorEq, and8, fmN, fm0, ones_N, take_N, toN1, slN_nil, encN, encC, encF, slN, slC, cfg0, cfgJ, get_flat_part lenN, get_flat_drop lenN, len_flat lenN, get_flat_part lenC, get_flat_drop lenC, len_flat lenC, hsh, hsv, hm, h0, es]
    refine ⟨i + 1, by omega, by (try simp only); omega, ?_⟩; exact Gn.canon (by first | rfl | (simp [List.append_nil, e2, nd, fmN, fm0, encN]; rfl)) (by simp [wk, slN, slM0, e2, nd, fmN, fm0, encN]) (by simp [List.length_append]) (by simp [bel_slM, bel_LN, fmN, fm0, belN, bel_Ns, bel_slN, belF, belAll_append, belC, bel_Cs, bel_slC]) (by simp [bel_slM, bel_LN, fmN, fm0, belN, bel_Ns, bel_slN, belF, belAll_append, belC, bel_Cs, bel_slC])
  · have e : cj c (i + 1) = jn 5 (cj c i) [nd c i] := by rw [cj, if_neg h0, if_neg hn]
    have e2 : slM (cj c (i + 1)) = slN (jn 5 (cj c i) [nd c i]) := by rw [e]; rfl
    have hp : (cj c i).length ≠ 0 := fun e => hn (List.length_eq_zero_iff.1 e)
    have hj := pc29 5 (cj c i) [nd c i] (by omega) (by rw [List.length_singleton]; omega)
    simp only [slN, fmN, fm0, nd, List.length_singleton] at hj
    have es : slM (cj c i) = slN (cj c i) := by rw [slM, if_neg hn]
    simp (config := { maxSteps := 2000000 }) -implicitDefEqProofs +contextual (disch := first | assumption | omega | decide +kernel) only [push_cast, ↓capI, br2_true, br2_false, frk_tt, frk_tf, frk_f, frkD_tt, frkD_tf, frkD_f, pk2_true, pk2_false, imp_true, seval, Nat.reduceLeDiff, Nat.reduceEqDiff, reduceCtorEq, ↓reduceIte, reduceCtorEq, and8, fmN, fm0, ones_N, take_N, toN1, slN_nil, encN, encC, encF, slN, slC, cfg0, cfgJ, get_flat_part lenN, get_flat_drop lenN, len_flat lenN, get_flat_part lenC, get_flat_drop lenC, len_flat lenC, hsh, hsv, hm, h0, es, hp]
    refine callO.pc hj ?_
    simp (config := { maxSteps := 2000000 }) -implicitDefEqProofs +contextual (disch := first | assumption | omega | decide +kernel) only [push_cast, ↓capI, br2_true, br2_false, frk_tt, frk_tf, frk_f, frkD_tt, frkD_tf, frkD_f, pk2_true, pk2_false, imp_true, seval, Nat.reduceLeDiff, Nat.reduceEqDiff, reduceCtorEq, ↓reduceIte, reduceCtorEq, and8, fmN, fm0, ones_N, take_N, toN1, slN_nil, encN, encC, encF, slN, slC, cfg0, cfgJ, get_flat_part lenN, get_flat_drop lenN, len_flat lenN, get_flat_part lenC, get_flat_drop lenC, len_flat lenC]
    refine ⟨i + 1, by omega, by (try simp only); omega, ?_⟩; exact Gn.canon (by first | rfl | (simp [List.append_nil, e2, nd, fmN, fm0, encN]; rfl)) (by simp [wk, slN, slM0, e2, nd, fmN, fm0, encN]) (by simp [List.length_append]) (by simp [bel_slM, bel_LN, fmN, fm0, belN, bel_Ns, bel_slN, belF, belAll_append, belC, bel_Cs, bel_slC]) (by simp [bel_slM, bel_LN, fmN, fm0, belN, bel_Ns, bel_slN, belF, belAll_append, belC, bel_Cs, bel_slC])
theorem and_ofNat8 (a b : Nat) : UInt8.ofNat (a &&& b) = UInt8.ofNat a &&& UInt8.ofNat b := by
  apply UInt8.toNat_inj.1
  rw [UInt8.toNat_and, UInt8.toNat_ofNat', UInt8.toNat_ofNat', UInt8.toNat_ofNat', Nat.and_mod_two_pow]
theorem fval_and (x y : Nat) (i : Nat) : fval (decf (x &&& y)) i = fval (decf x) i &&& fval (decf y) i := by
  unfold fval
  split
  · show UInt8.ofNat ((x &&& y) / 2 ^ 16) = UInt8.ofNat (x / 2 ^ 16) &&& UInt8.ofNat (y / 2 ^ 16)
    rw [← Nat.shiftRight_eq_div_pow, Nat.shiftRight_and_distrib, and_ofNat8, Nat.shiftRight_eq_div_pow, Nat.shiftRight_eq_div_pow]
  split
  · show UInt8.ofNat ((x &&& y) / 2 ^ 8) = UInt8.ofNat (x / 2 ^ 8) &&& UInt8.ofNat (y / 2 ^ 8)
    rw [← Nat.shiftRight_eq_div_pow, Nat.shiftRight_and_distrib, and_ofNat8, Nat.shiftRight_eq_div_pow, Nat.shiftRight_eq_div_pow]
  · exact and_ofNat8 x y
end Go.Proofs.YtllfdnbnkncnhaaGreatDoor

/- Chapter 44: FromSpace, program and reference. -/
set_option maxRecDepth 100000
set_option maxHeartbeats 4000000
set_option linter.all false
namespace Go.Proofs.YtllfdnbnkncnhaaGreatDoor
open Go.Vm

def fsN (s : List Cu) : Nat → List Nd
  | 0 => []
  | n + 1 => if n = 0 then conj (s.getD 0 default) else jn 6 (fsN s n) (conj (s.getD n default))
theorem conj_ne (c : Cu) : conj c ≠ [] := by
  unfold conj
  split
  · exact List.cons_ne_nil _ _
  · assumption
theorem fsN_ne (s : List Cu) (n : Nat) (h : 0 < n) : fsN s n ≠ [] := by
  cases n with
  | zero => exact absurd h (by decide)
  | succ n =>
    rw [fsN]
    split
    · exact conj_ne _
    · exact List.cons_ne_nil _ _
theorem jn_ne (o : Int) (a b : List Nd) : jn o a b ≠ [] := List.cons_ne_nil _ _
theorem fsM0 {s : List Cu} : slM (fsN s 0) = .sl true [] 0 := rfl
def fsE (s : List Cu) (R : V) : Prop := ((∀ j, j ≤ s.length → (fsN s j).length ≤ 24) → R = .tup [slN (if s = [] then [⟨2, 0, 0, 0⟩] else fsN s s.length), .int .i64 0]) ∧
  (∀ j, j ≤ s.length → 24 < (fsN s j).length → R = .tup [.sl true [] 0, .int .i64 12])
theorem pc15 (s : List Cu) (hs : s.length ≤ 1000000) (R : V) (h : fsE s R) (hb : R.bel 0 = true) : PC Tryz.prog 15 [slC s] R := by
  refine PC.walk tok mixed cfg0 Tryz.func15 rfl Tryz.call15 (by simp [bel_slM, bel_LN, fmN, fm0, belN, bel_Ns, bel_slN, belF, belAll_append, belC, bel_Cs, bel_slC]) hb ?_
  simp (config := { maxSteps := 2000000 }) -implicitDefEqProofs +contextual (disch := first | assumption | omega | decide +kernel) only [push_cast, ↓capI, br2_true, br2_false, frk_tt, frk_tf, frk_f, frkD_tt, frkD_tf, frkD_f, pk2_true, pk2_false, imp_true, seval, Nat.reduceLeDiff, Nat.reduceEqDiff, reduceCtorEq, ↓reduceIte, reduceCtorEq, and8, fmN, fm0, ones_N, take_N, toN1, slN_nil, encN, encC, encF, slN, slC, cfg0, cfgJ, get_flat_part lenN, get_flat_drop lenN, len_flat lenN, get_flat_part lenC, get_flat_drop lenC, len_flat lenC, Tryz.ntmps15]
  refine T.lp tok mixed cfg0 (fun (i : Nat) => kp 1 (dd 3 (sv (slM (fsN s i)) (dd 2 (kp 2 (sv (.int .i64 i) (dd 22 (nl)))))))) (fun H0 (i : Nat) => []) (fun (i : Nat) => i ≤ s.length ∧ ∀ j, j ≤ i → (fsN s j).length ≤ 24) (fun (i : Nat) => s.length - i) (0) ?_ ?_ ?_
  · exact ⟨Nat.zero_le _, fun j hj => by rw [Nat.le_zero.1 hj]; exact Nat.zero_le _⟩
  · exact Gn.canon (J := []) (by first | rfl | (simp [List.append_nil]; done) | (simp [List.append_nil]; rfl)) (by simp [wk, slN, slM0, fsM0, encN, putT, kp, dd, sv, nl]) (by simp [List.length_append]) (by simp [bel_slM, bel_LN, fmN, fm0, belN, bel_Ns, bel_slN, belF, belAll_append, belC, bel_Cs, bel_slC, kp, dd, sv, nl]) (by simp [bel_slM, bel_LN, fmN, fm0, belN, bel_Ns, bel_slN, belF, belAll_append, belC, bel_Cs, bel_slC])
  rintro i ⟨hi, hj⟩
  by_cases hlt : i < s.length
  case neg =>
    have hi' : i = s.length := by omega
    subst hi'
    have hR := h.1 hj
    rw [hR]
    cases s with
    | nil =>
      simp (config := { maxSteps := 2000000 }) -implicitDefEqProofs +contextual (disch := first | assumption | omega | decide +kernel) only [push_cast, ↓capI, br2_true, br2_false, frk_tt, frk_tf, frk_f, frkD_tt, frkD_tf, frkD_f, pk2_true, pk2_false, imp_true, seval, Nat.reduceLeDiff, Nat.reduceEqDiff, reduceCtorEq, ↓reduceIte, reduceCtorEq, and8, fmN, fm0, ones_N, take_N, toN1, slN_nil, encN, encC, encF, slN, slC, cfg0, cfgJ, get_flat_part lenN, get_flat_drop lenN, len_flat lenN, get_flat_part lenC, get_flat_drop lenC, len_flat lenC]
      refine endK.ret ?_ (by first | rfl | simp [bel_slM, bel_LN, fmN, fm0, belN, bel_Ns, bel_slN, belF, belAll_append, belC, bel_Cs, bel_slC]); simp [evRes, getT, retV, Tryz.f15,  fmN, fm0, slN, encN]
    | cons c r =>
      rw [slM_cons (fsN_ne _ _ (by simp))]
      simp (config := { maxSteps := 2000000 }) -implicitDefEqProofs +contextual (disch := first | assumption | omega | decide +kernel) only [push_cast, ↓capI, br2_true, br2_false, frk_tt, frk_tf, frk_f, frkD_tt, frkD_tf, frkD_f, pk2_true, pk2_false, imp_true, seval, Nat.reduceLeDiff, Nat.reduceEqDiff, reduceCtorEq, ↓reduceIte, reduceCtorEq, and8, fmN, fm0, ones_N, take_N, toN1, slN_nil, encN, encC, encF, slN, slC, cfg0, cfgJ, get_flat_part lenN, get_flat_drop lenN, len_flat lenN, get_flat_part lenC, get_flat_drop lenC, len_flat lenC]
      refine endK.ret ?_ (by first | rfl | simp [bel_slM, bel_LN, fmN, fm0, belN, bel_Ns, bel_slN, belF, belAll_append, belC, bel_Cs, bel_slC]); simp [evRes, getT, retV, Tryz.f15]
  have hget : s.getD i default = s[i] := by rw [List.getD_eq_getElem?_getD, List.getElem?_eq_getElem hlt]; rfl
  have hc := conj_len s[i]
  have e : fsN s (i + 1) = if i = 0 then conj (s.getD 0 default) else jn 6 (fsN s i) (conj (s.getD i default)) := rfl
  have hp := pc28 s[i]
  by_cases h0 : i = 0
  · rw [if_pos h0, ← h0, hget] at e
    have e2 : slM (fsN s (i + 1)) = slN (conj s[i]) := by rw [e, slM_cons (conj_ne _)]
    have h24 : (fsN s (i + 1)).length ≤ 24 := by rw [e]; omega
    have h24' : ¬ (24 : Int) < (conj s[i]).length := by omega
    have hd : ((i : Int) = 0) = True := eq_true (by omega)
    simp (config := { maxSteps := 2000000 }) -implicitDefEqProofs +contextual (disch := first | assumption | omega | decide +kernel) only [push_cast, ↓capI, br2_true, br2_false, frk_tt, frk_tf, frk_f, frkD_tt, frkD_tf, frkD_f, pk2_true, pk2_false, imp_true, seval, Nat.reduceLeDiff, Nat.reduceEqDiff, reduceCtorEq, ↓reduceIte, reduceCtorEq, and8, fmN, fm0, ones_N, take_N, toN1, slN_nil, encN, encC, encF, slN, slC, cfg0, cfgJ, get_flat_part lenN, get_flat_drop lenN, len_flat lenN, get_flat_part lenC, get_flat_drop lenC, len_flat lenC, hd]
    refine callO.pc hp ?_
    simp (config := { maxSteps := 2000000 }) -implicitDefEqProofs +contextual (disch := first | assumption | omega | decide +kernel) only [push_cast, ↓capI, br2_true, br2_false, frk_tt, frk_tf, frk_f, frkD_tt, frkD_tf, frkD_f, pk2_true, pk2_false, imp_true, seval, Nat.reduceLeDiff, Nat.reduceEqDiff, reduceCtorEq, ↓reduceIte, reduceCtorEq, and8, fmN, fm0, ones_N, take_N, toN1, slN_nil, encN, encC, encF, slN, slC, cfg0, cfgJ, get_flat_part lenN, get_flat_drop lenN, len_flat lenN, get_flat_part lenC, get_flat_drop lenC, len_flat lenC, h24']
    refine ⟨i + 1, ⟨by omega, fun j hj2 => by rcases Nat.le_or_eq_of_le_succ hj2 with g | g; exact hj j g; rw [g]; exact h24⟩, by (try simp only); omega, ?_⟩; exact Gn.canon (by first | rfl | (simp [List.append_nil, e2]; rfl)) (by simp [wk, slN, slM0, fsM0, encN, e2]) (by simp [List.length_append]) (by simp [bel_slM, bel_LN, fmN, fm0, belN, bel_Ns, bel_slN, belF, belAll_append, belC, bel_Cs, bel_slC]) (by simp [bel_slM, bel_LN, fmN, fm0, belN, bel_Ns, bel_slN, belF, belAll_append, belC, bel_Cs, bel_slC])
  · rw [if_neg h0, hget] at e
    have hl := hj i (Nat.le_refl _)
    have e2 : slM (fsN s (i + 1)) = slN (jn 6 (fsN s i) (conj s[i])) := by rw [e, slM_cons (jn_ne _ _ _)]
    have es := slM_cons (fsN_ne s i (by omega))
    have hq := pc29 6 (fsN s i) (conj s[i]) (by omega) (by omega)
    rw [es]
    simp (config := { maxSteps := 2000000 }) -implicitDefEqProofs +contextual (disch := first | assumption | omega | decide +kernel) only [push_cast, ↓capI, br2_true, br2_false, frk_tt, frk_tf, frk_f, frkD_tt, frkD_tf, frkD_f, pk2_true, pk2_false, imp_true, seval, Nat.reduceLeDiff, Nat.reduceEqDiff, reduceCtorEq, ↓reduceIte, reduceCtorEq, and8, fmN, fm0, ones_N, take_N, toN1, slN_nil, encN, encC, encF, slN, slC, cfg0, cfgJ, get_flat_part lenN, get_flat_drop lenN, len_flat lenN, get_flat_part lenC, get_flat_drop lenC, len_flat lenC, h0]
    refine callO.pc hp ?_
    simp (config := { maxSteps := 2000000 }) -implicitDefEqProofs +contextual (disch := first | assumption | omega | decide +kernel) only [push_cast, ↓capI, br2_true, br2_false, frk_tt, frk_tf, frk_f, frkD_tt, frkD_tf, frkD_f, pk2_true, pk2_false, imp_true, seval, Nat.reduceLeDiff, Nat.reduceEqDiff, reduceCtorEq, ↓reduceIte, reduceCtorEq, and8, fmN, fm0, ones_N, take_N, toN1, slN_nil, encN, encC, encF, slN, slC, cfg0, cfgJ, get_flat_part lenN, get_flat_drop lenN, len_flat lenN, get_flat_part lenC, get_flat_drop lenC, len_flat lenC]
    refine callO.pc hq ?_
    by_cases h24 : 24 < (jn 6 (fsN s i) (conj s[i])).length
    · rw [h.2 (i + 1) hlt (by rw [e]; exact h24)]
      simp (config := { maxSteps := 2000000 }) -implicitDefEqProofs +contextual (disch := first | assumption | omega | decide +kernel) only [push_cast, ↓capI, br2_true, br2_false, frk_tt, frk_tf, frk_f, frkD_tt, frkD_tf, frkD_f, pk2_true, pk2_false, imp_true, seval, Nat.reduceLeDiff, Nat.reduceEqDiff, reduceCtorEq, ↓reduceIte, reduceCtorEq, and8, fmN, fm0, ones_N, take_N, toN1, slN_nil, encN, encC, encF, slN, slC, cfg0, cfgJ, get_flat_part lenN, get_flat_drop lenN, len_flat lenN, get_flat_part lenC, get_flat_drop lenC, len_flat lenC, h24]
      refine endK.ret ?_ (by first | rfl | simp [bel_slM, bel_LN, fmN, fm0, belN, bel_Ns, bel_slN, belF, belAll_append, belC, bel_Cs, bel_slC]); simp [evRes, getT, retV, Tryz.f15]
    · simp (config := { maxSteps := 2000000 }) -implicitDefEqProofs +contextual (disch := first | assumption | omega | decide +kernel) only [push_cast, ↓capI, br2_true, br2_false, frk_tt, frk_tf, frk_f, frkD_tt, frkD_tf, frkD_f, pk2_true, pk2_false, imp_true, seval, Nat.reduceLeDiff, Nat.reduceEqDiff, reduceCtorEq, ↓reduceIte, reduceCtorEq, and8, fmN, fm0, ones_N, take_N, toN1, slN_nil, encN, encC, encF, slN, slC, cfg0, cfgJ, get_flat_part lenN, get_flat_drop lenN, len_flat lenN, get_flat_part lenC, get_flat_drop lenC, len_flat lenC, h24]
      refine ⟨i + 1, ⟨by omega, fun j hj2 => by rcases Nat.le_or_eq_of_le_succ hj2 with g | g; exact hj j g; rw [g, e]; omega⟩, by (try simp only); omega, ?_⟩; exact Gn.canon (by first | rfl | (simp [List.append_nil, e2]; rfl)) (by simp [wk, slN, slM0, fsM0, encN, e2]) (by simp [List.length_append]) (by simp [bel_slM, bel_LN, fmN, fm0, belN, bel_Ns, bel_slN, belF, belAll_append, belC, bel_Cs, bel_slC]) (by simp [bel_slM, bel_LN, fmN, fm0, belN, bel_Ns, bel_slN, belF, belAll_append, belC, bel_Cs, bel_slC])
end Go.Proofs.YtllfdnbnkncnhaaGreatDoor

/- Chapter 44: the grammar of predicates, in plain terms. -/
set_option maxRecDepth 100000
set_option maxHeartbeats 4000000
set_option linter.all false
namespace Go.Proofs.YtllfdnbnkncnhaaGreatDoor
open Go.Vm

abbrev PR := Option (Pr × List UInt8)
def op0 (o : Int) : Nd := ⟨o, 0, 0, 0⟩
/-- operands joined from the left -/
def lst (nx : List UInt8 → PR) (o : Int) (c : UInt8) : Nat → Pr → List UInt8 → PR
  | 0, _, _ => none
  | k + 1, x, s => if begins s [c] = true then
      match nx (s.drop 1) with
      | none => none
      | some (y, r) => lst nx o c k (.bin (op0 o) x y) r
    else some (x, s)
def lstP (nx : List UInt8 → PR) (o : Int) (c : UInt8) (s : List UInt8) : PR :=
  match nx s with
  | none => none
  | some (x, r) => lst nx o c (r.length + 1) x r
def pnum (s : List UInt8) : Option UInt8 := if (parseI (digs s)).2 = true ∧ (parseI (digs s)).1 ≤ 255 then some (UInt8.ofNat (parseI (digs s)).1.toNat) else none
def pTest (i : Int) (s : List UInt8) : PR :=
  match pnum s with
  | none => none
  | some v => if begins (dropD s) [47] = true then
      match pnum ((dropD s).drop 1) with
      | none => none
      | some m => if v &&& ~~~ m = 0 then some (.leaf ⟨3, i, v, m⟩, dropD ((dropD s).drop 1)) else none
    else some (.leaf ⟨3, i, v, 255⟩, dropD s)
def pFld (s : List UInt8) : PR :=
  if begins s (fname 0 ++ [61]) = true then pTest 0 (s.drop 4)
  else if begins s (fname 1 ++ [61]) = true then pTest 1 (s.drop 4)
  else if begins s (fname 2 ++ [61]) = true then pTest 2 (s.drop 5)
  else none
def pNot : Nat → List UInt8 → PR
  | 0, _ => none
  | k + 1, s =>
    if begins s [33] = true then
      (pNot k (s.drop 1)).map fun q => (.un (op0 4) q.1, q.2)
    else if begins s [116, 114, 117, 101] = true then some (.leaf (op0 1), s.drop 4)
    else if begins s [102, 97, 108, 115, 101] = true then some (.leaf (op0 2), s.drop 5)
    else if begins s [40] = true then
      match lstP (lstP (pNot k) 5 38) 6 124 (s.drop 1) with
      | none => none
      | some (p, r) => if begins r [41] = true then some (p, r.drop 1) else none
    else pFld s
def pAnd (k : Nat) : List UInt8 → PR := lstP (pNot k) 5 38
def pOr (k : Nat) : List UInt8 → PR := lstP (pAnd k) 6 124
/-- a reader consumes text, at least a byte for each node -/
def Eats (f : List UInt8 → PR) : Prop := ∀ s p r, f s = some (p, r) → (flat p).length + r.length ≤ s.length ∧ okP p
theorem lst_eats {nx : List UInt8 → PR} (h : Eats nx) {o : Int} (ho : o = 5 ∨ o = 6) {c : UInt8} : ∀ k x s p r, okP x → lst nx o c k x s = some (p, r) → (flat p).length + r.length ≤ (flat x).length + s.length ∧ okP p
  | 0, x, s, p, r, _, e => by cases e
  | k + 1, x, s, p, r, hx, e => by
    rw [lst] at e
    split at e
    · rename_i hb
      have hl := begins_le hb
      simp only [List.length_cons, List.length_nil] at hl
      cases hn : nx (s.drop 1) with
      | none => rw [hn] at e; cases e
      | some q =>
        obtain ⟨y, t⟩ := q
        rw [hn] at e
        have h1 := h _ _ _ hn
        rw [List.length_drop] at h1
        have h2 := lst_eats h ho k (.bin (op0 o) x y) t p r ⟨ho, hx, h1.2⟩ e
        rw [flat, List.length_cons, List.length_append] at h2
        exact ⟨by omega, h2.2⟩
    · injection e with e
      injection e with e1 e2
      subst e1 e2
      exact ⟨Nat.le_refl _, hx⟩
theorem lstP_eats {nx : List UInt8 → PR} (h : Eats nx) {o : Int} (ho : o = 5 ∨ o = 6) {c : UInt8} : Eats (lstP nx o c) := by
  intro s p r e
  rw [lstP] at e
  cases hn : nx s with
  | none => rw [hn] at e; cases e
  | some q =>
    obtain ⟨y, t⟩ := q
    rw [hn] at e
    have h1 := h _ _ _ hn
    have h2 := lst_eats h ho _ _ _ _ _ h1.2 e
    exact ⟨by omega, h2.2⟩
theorem chk1_leaf {i : Int} {v m : UInt8} (hi : 0 ≤ i ∧ i ≤ 2) (h : v &&& ~~~ m = 0) : chk1 ⟨3, i, v, m⟩ = 0 := by
  have ha : arity 3 = 0 := rfl
  rw [chk1]
  simp only [ha]
  rw [if_neg (by decide), if_neg (by omega), if_neg]
  rintro ⟨_, h2⟩
  rw [badN] at h2
  simp [h] at h2
theorem pTest_eats {i : Int} (hi : 0 ≤ i ∧ i ≤ 2) {s : List UInt8} {p : Pr} {r : List UInt8} (e : pTest i s = some (p, r)) : r.length ≤ s.length ∧ okP p ∧ (flat p).length = 1 := by
  rw [pTest] at e
  have h1 := dropD_len s
  cases hv : pnum s with
  | none => rw [hv] at e; cases e
  | some v =>
    rw [hv] at e
    simp only at e
    split at e
    · have h2 := dropD_len ((dropD s).drop 1)
      rw [List.length_drop] at h2
      cases hm : pnum ((dropD s).drop 1) with
      | none => rw [hm] at e; cases e
      | some m =>
        rw [hm] at e
        simp only at e
        split at e
        · rename_i hz
          injection e with e
          injection e with e1 e2
          subst e1 e2
          exact ⟨by omega, ⟨.inr (.inr rfl), chk1_leaf hi hz⟩, rfl⟩
        · cases e
    · injection e with e
      injection e with e1 e2
      subst e1 e2
      refine ⟨by omega, ⟨.inr (.inr rfl), chk1_leaf hi ?_⟩, rfl⟩
      show v &&& 0 = 0
      exact UInt8.and_zero
theorem pFld_eats : Eats pFld := by
  intro s p r e
  rw [pFld] at e
  split at e
  · rename_i hb
    have hl := begins_le hb
    have h := pTest_eats (by decide) e
    rw [List.length_drop] at h
    simp [fname] at hl
    exact ⟨by omega, h.2.1⟩
  split at e
  · rename_i hb
    have hl := begins_le hb
    have h := pTest_eats (by decide) e
    rw [List.length_drop] at h
    simp [fname] at hl
    exact ⟨by omega, h.2.1⟩
  split at e
  · rename_i hb
    have hl := begins_le hb
    have h := pTest_eats (by decide) e
    rw [List.length_drop] at h
    simp [fname] at hl
    exact ⟨by omega, h.2.1⟩
  · cases e
theorem pNot_eats : ∀ k, Eats (pNot k)
  | 0 => by intro s p r e; cases e
  | k + 1 => by
    have ih := pNot_eats k
    intro s p r e
    rw [pNot] at e
    split at e
    · rename_i hb
      have hl := begins_le hb
      simp only [List.length_cons, List.length_nil] at hl
      cases hn : pNot k (s.drop 1) with
      | none => rw [hn] at e; cases e
      | some q =>
        obtain ⟨y, t⟩ := q
        rw [hn] at e
        have h1 := ih _ _ _ hn
        rw [List.length_drop] at h1
        injection e with e
        injection e with e1 e2
        subst e1 e2
        simp only [flat, List.length_cons]
        exact ⟨by omega, rfl, h1.2⟩
    split at e
    · rename_i hb
      have hl := begins_le hb
      simp only [List.length_cons, List.length_nil] at hl
      injection e with e
      injection e with e1 e2
      subst e1 e2
      rw [List.length_drop, flat, List.length_singleton]
      exact ⟨by omega, .inl rfl, rfl⟩
    split at e
    · rename_i hb
      have hl := begins_le hb
      simp only [List.length_cons, List.length_nil] at hl
      injection e with e
      injection e with e1 e2
      subst e1 e2
      rw [List.length_drop, flat, List.length_singleton]
      exact ⟨by omega, .inr (.inl rfl), rfl⟩
    split at e
    · rename_i hb
      have hl := begins_le hb
      simp only [List.length_cons, List.length_nil] at hl
      cases hn : lstP (lstP (pNot k) 5 38) 6 124 (s.drop 1) with
      | none => rw [hn] at e; cases e
      | some q =>
        obtain ⟨y, t⟩ := q
        rw [hn] at e
        have h1 := lstP_eats (lstP_eats ih (.inl rfl)) (.inr rfl) _ _ _ hn
        rw [List.length_drop] at h1
        simp only at e
        split at e
        · injection e with e
          injection e with e1 e2
          subst e1 e2
          rw [List.length_drop]
          exact ⟨by omega, h1.2⟩
        · cases e
    · exact pFld_eats s p r e
theorem pAnd_eats (k : Nat) : Eats (pAnd k) := lstP_eats (pNot_eats k) (.inl rfl)
theorem pOr_eats (k : Nat) : Eats (pOr k) := lstP_eats (pAnd_eats k) (.inr rfl)
end Go.Proofs.YtllfdnbnkncnhaaGreatDoor

/- Chapter 44: the program's scanner: numbers and fields. -/
set_option maxRecDepth 100000
set_option maxHeartbeats 4000000
set_option linter.all false
namespace Go.Proofs.YtllfdnbnkncnhaaGreatDoor
open Go.Vm

theorem digs_all (s : List UInt8) : ∀ c, c ∈ digs s → isDig c = true := by
  intro c hc
  induction s with
  | nil => cases hc
  | cons x s ih =>
    rw [digs, List.takeWhile_cons] at hc
    split at hc
    · rename_i h
      rcases List.mem_cons.1 hc with e | h2
      · rw [e]; exact h
      · exact ih h2
    · cases hc
theorem begins_cons {x c : UInt8} {l : List UInt8} : begins (x :: l) [c] = (x == c) := by simp [begins]
theorem begins_nil {c : UInt8} : begins [] [c] = false := rfl
theorem no_minus {d : List UInt8} (h : ∀ c, c ∈ d → isDig c = true) : begins d [45] = false := by
  cases d with
  | nil => rfl
  | cons x d =>
    rw [begins_cons, beq_eq_false_iff_ne]
    intro e
    have := h x (List.mem_cons_self ..)
    rw [e] at this
    exact absurd this (by decide)
theorem parseI_nn {d : List UInt8} (h : begins d [45] = false) : 0 ≤ (parseI d).1 := by
  rw [parseI, if_neg (by rw [h]; simp)]
  split
  · exact Int.le_refl _
  · split
    · exact Int.natCast_nonneg _
    · exact Int.le_refl _
def numV (o : Option UInt8) : V := .tup [.int .u8 (o.getD 0).toNat, .bool o.isSome]
theorem pg76 (s : List UInt8) (hs : s.length ≤ 4000000000) : GCall Tryz.prog 84 [.ptr 0 0 0] [.cells 0 [.str s]] (numV (pnum s)) [.cells 0 [.str (dropD s)]] := by
  have hl := dropD_len s
  have ht := (take_digs s).1
  have hd := (take_digs s).2
  have hk : (s.length : Int) - (dropD s).length = ((s.length - (dropD s).length : Nat) : Int) := by omega
  have hk2 : s.length - (dropD s).length ≤ s.length := Nat.sub_le _ _
  generalize s.length - (dropD s).length = k at ht hd hk hk2
  have hpi := pc91 (digs s) (by omega)
  have hnn := parseI_nn (no_minus (digs_all s))
  have htl : min s.length (s.length - k) = s.length - k := by omega
  have hdt : (dropD s).take (s.length - k) = dropD s := List.take_of_length_le (by omega)
  have h83 := pc90 s
  unfold digs0 at h83
  rw [encIB] at hpi
  rw [pnum]
  generalize parseI (digs s) = pi at hpi hnn ⊢
  obtain ⟨n, ok⟩ := pi
  simp only at hpi hnn ⊢
  refine GC.walk tok mixed cfg0 Tryz.func84 rfl Tryz.call84 ?_; simp (config := { maxSteps := 2000000 }) -implicitDefEqProofs +contextual (disch := first | assumption | omega | decide +kernel) only [push_cast, ↓capI, br2_true, br2_false, frk_tt, frk_tf, frk_f, frkD_tt, frkD_tf, frkD_f, pk2_true, pk2_false, imp_true, seval, Nat.reduceLeDiff, Nat.reduceEqDiff, reduceCtorEq, ↓reduceIte, reduceCtorEq, fmN, fm0, take_N, toN1, slN_nil, encN, slN, cfg0, get_flat_part lenN, get_flat_drop lenN, len_flat lenN, V.rn, rns, qn, setPs, rnOs, Ob.rn, List.set_cons_zero, List.size_toArray, Tryz.ntmps84]
  refine callG.pc1 h83 ?_
  simp (config := { maxSteps := 2000000 }) -implicitDefEqProofs +contextual (disch := first | assumption | omega | decide +kernel) only [push_cast, ↓capI, br2_true, br2_false, frk_tt, frk_tf, frk_f, frkD_tt, frkD_tf, frkD_f, pk2_true, pk2_false, imp_true, seval, Nat.reduceLeDiff, Nat.reduceEqDiff, reduceCtorEq, ↓reduceIte, reduceCtorEq, fmN, fm0, take_N, toN1, slN_nil, encN, slN, cfg0, get_flat_part lenN, get_flat_drop lenN, len_flat lenN, V.rn, rns, qn, setPs, rnOs, Ob.rn, List.set_cons_zero, List.size_toArray, hk, ht, hd, Nat.sub_zero]
  refine callO.pc hpi ?_
  simp (config := { maxSteps := 2000000 }) -implicitDefEqProofs +contextual (disch := first | assumption | omega | decide +kernel) only [push_cast, ↓capI, br2_true, br2_false, frk_tt, frk_tf, frk_f, frkD_tt, frkD_tf, frkD_f, pk2_true, pk2_false, imp_true, seval, Nat.reduceLeDiff, Nat.reduceEqDiff, reduceCtorEq, ↓reduceIte, reduceCtorEq, fmN, fm0, take_N, toN1, slN_nil, encN, slN, cfg0, get_flat_part lenN, get_flat_drop lenN, len_flat lenN, V.rn, rns, qn, setPs, rnOs, Ob.rn, List.set_cons_zero, List.size_toArray, ht, hd, hdt]
  cases ok
  · simp (config := { maxSteps := 2000000 }) -implicitDefEqProofs +contextual (disch := first | assumption | omega | decide +kernel) only [push_cast, ↓capI, br2_true, br2_false, frk_tt, frk_tf, frk_f, frkD_tt, frkD_tf, frkD_f, pk2_true, pk2_false, imp_true, seval, Nat.reduceLeDiff, Nat.reduceEqDiff, reduceCtorEq, ↓reduceIte, reduceCtorEq, fmN, fm0, take_N, toN1, slN_nil, encN, slN, cfg0, get_flat_part lenN, get_flat_drop lenN, len_flat lenN, V.rn, rns, qn, setPs, rnOs, Ob.rn, List.set_cons_zero, List.size_toArray, ht, hd, hdt]
    refine endG.ret ([]) (by first | rfl | simp [bel_LN, fmN, fm0, belN, bel_Ns, bel_slN, bel_slM, fzs_ok, getO, setO, fzs, fz, fzH, Nat.beq, fmN, fm0, take_N, toN1, slN_nil, tt_3, tt_4, tt_5, tt_9, tt_22, tt_42, tt_26, tt_43, tt_36, tt_63, tt_57, tt_59, encN, slN, cfg0, get_flat_part lenN, get_flat_drop lenN, len_flat lenN, V.rn, rns, qn, setPs, rnOs, Ob.rn, List.set_cons_zero, List.size_toArray, numV]) (by simp) (by simp [bel_LN, fmN, fm0, belN, bel_Ns, bel_slN, bel_slM, fzs_ok, imp, lenOK_iff, List.take_of_length_le, evRes, getT, getO, setO, fzs, fz, fzH, Nat.beq, retV, Res.then, ldT, ldR, mkV, getV, fmN, fm0, take_N, toN1, slN_nil, tt_3, tt_4, tt_5, tt_9, tt_22, tt_42, tt_26, tt_43, tt_36, tt_63, tt_57, tt_59, encN, slN, cfg0, get_flat_part lenN, get_flat_drop lenN, len_flat lenN, V.rn, rns, qn, setPs, rnOs, Ob.rn, List.set_cons_zero, List.size_toArray, Tryz.f84, numV]) (by first | rfl | simp [bel_LN, fmN, fm0, belN, bel_Ns, bel_slN, bel_slM, numV]) (by first | rfl | simp [bel_LN, fmN, fm0, belN, bel_Ns, bel_slN, bel_slM, numV])
  by_cases hn : n ≤ 255
  · have hu := u8_id (x := n) (by omega)
    have hv : (UInt8.ofNat n.toNat).toNat = n.toNat := by rw [UInt8.toNat_ofNat']; omega
    have hg : ¬ 255 < n := by omega
    have hm : ((n.toNat : Nat) : Int) = n := Int.toNat_of_nonneg hnn
    simp (config := { maxSteps := 2000000 }) -implicitDefEqProofs +contextual (disch := first | assumption | omega | decide +kernel) only [push_cast, ↓capI, br2_true, br2_false, frk_tt, frk_tf, frk_f, frkD_tt, frkD_tf, frkD_f, pk2_true, pk2_false, imp_true, seval, Nat.reduceLeDiff, Nat.reduceEqDiff, reduceCtorEq, ↓reduceIte, reduceCtorEq, fmN, fm0, take_N, toN1, slN_nil, encN, slN, cfg0, get_flat_part lenN, get_flat_drop lenN, len_flat lenN, V.rn, rns, qn, setPs, rnOs, Ob.rn, List.set_cons_zero, List.size_toArray, ht, hd, hdt, hg, hu]
    refine endG.ret ([]) (by first | rfl | simp [bel_LN, fmN, fm0, belN, bel_Ns, bel_slN, bel_slM, fzs_ok, getO, setO, fzs, fz, fzH, Nat.beq, fmN, fm0, take_N, toN1, slN_nil, tt_3, tt_4, tt_5, tt_9, tt_22, tt_42, tt_26, tt_43, tt_36, tt_63, tt_57, tt_59, encN, slN, cfg0, get_flat_part lenN, get_flat_drop lenN, len_flat lenN, V.rn, rns, qn, setPs, rnOs, Ob.rn, List.set_cons_zero, List.size_toArray, numV, hn, hv, hm, hu]) (by simp) (by simp [bel_LN, fmN, fm0, belN, bel_Ns, bel_slN, bel_slM, fzs_ok, imp, lenOK_iff, List.take_of_length_le, evRes, getT, getO, setO, fzs, fz, fzH, Nat.beq, retV, Res.then, ldT, ldR, mkV, getV, fmN, fm0, take_N, toN1, slN_nil, tt_3, tt_4, tt_5, tt_9, tt_22, tt_42, tt_26, tt_43, tt_36, tt_63, tt_57, tt_59, encN, slN, cfg0, get_flat_part lenN, get_flat_drop lenN, len_flat lenN, V.rn, rns, qn, setPs, rnOs, Ob.rn, List.set_cons_zero, List.size_toArray, Tryz.f84, numV, hn, hv, hm, hu]) (by first | rfl | simp [bel_LN, fmN, fm0, belN, bel_Ns, bel_slN, bel_slM, numV, hn, hv, hm, hu]) (by first | rfl | simp [bel_LN, fmN, fm0, belN, bel_Ns, bel_slN, bel_slM, numV, hn, hv, hm, hu])
  · have hg : 255 < n := by omega
    simp (config := { maxSteps := 2000000 }) -implicitDefEqProofs +contextual (disch := first | assumption | omega | decide +kernel) only [push_cast, ↓capI, br2_true, br2_false, frk_tt, frk_tf, frk_f, frkD_tt, frkD_tf, frkD_f, pk2_true, pk2_false, imp_true, seval, Nat.reduceLeDiff, Nat.reduceEqDiff, reduceCtorEq, ↓reduceIte, reduceCtorEq, fmN, fm0, take_N, toN1, slN_nil, encN, slN, cfg0, get_flat_part lenN, get_flat_drop lenN, len_flat lenN, V.rn, rns, qn, setPs, rnOs, Ob.rn, List.set_cons_zero, List.size_toArray, ht, hd, hdt, hg]
    refine endG.ret ([]) (by first | rfl | simp [bel_LN, fmN, fm0, belN, bel_Ns, bel_slN, bel_slM, fzs_ok, getO, setO, fzs, fz, fzH, Nat.beq, fmN, fm0, take_N, toN1, slN_nil, tt_3, tt_4, tt_5, tt_9, tt_22, tt_42, tt_26, tt_43, tt_36, tt_63, tt_57, tt_59, encN, slN, cfg0, get_flat_part lenN, get_flat_drop lenN, len_flat lenN, V.rn, rns, qn, setPs, rnOs, Ob.rn, List.set_cons_zero, List.size_toArray, numV, hn]) (by simp) (by simp [bel_LN, fmN, fm0, belN, bel_Ns, bel_slN, bel_slM, fzs_ok, imp, lenOK_iff, List.take_of_length_le, evRes, getT, getO, setO, fzs, fz, fzH, Nat.beq, retV, Res.then, ldT, ldR, mkV, getV, fmN, fm0, take_N, toN1, slN_nil, tt_3, tt_4, tt_5, tt_9, tt_22, tt_42, tt_26, tt_43, tt_36, tt_63, tt_57, tt_59, encN, slN, cfg0, get_flat_part lenN, get_flat_drop lenN, len_flat lenN, V.rn, rns, qn, setPs, rnOs, Ob.rn, List.set_cons_zero, List.size_toArray, Tryz.f84, numV, hn]) (by first | rfl | simp [bel_LN, fmN, fm0, belN, bel_Ns, bel_slN, bel_slM, numV, hn]) (by first | rfl | simp [bel_LN, fmN, fm0, belN, bel_Ns, bel_slN, bel_slM, numV, hn])
/-- what a parsing function of the program answers -/
def Ans (f : Nat) (xs : List V) (s : List UInt8) (R : PR) : Prop :=
  ∃ (l : List Nd) (r : List UInt8), GCall Tryz.prog f (.ptr 0 0 0 :: xs) [.cells 0 [.str s]] (.tup [slM l, .bool R.isSome]) [.cells 0 [.str r]] ∧ l.length + r.length ≤ s.length ∧ ∀ p t, R = some (p, t) → l = flat p ∧ r = t
theorem and255 (v : UInt8) : ibits BinOp.andNot IntKind.u8 v.toNat 255 = 0 := by
  have h := andNot8 v 255
  rw [show ((255 : UInt8).toNat : Int) = 255 from rfl] at h
  rw [h, zero8]
  show v &&& 0 = 0
  exact UInt8.and_zero
theorem slM_one {x : Nd} : slM [x] = slN [x] := rfl
theorem pg68 (i : Int) (s : List UInt8) (hs : s.length ≤ 100000) : ∃ (l : List Nd) (r : List UInt8), GCall Tryz.prog 72 [.ptr 0 0 0, .int .i64 i] [.cells 0 [.str s]] (.tup [slM l, .bool (pTest i s).isSome]) [.cells 0 [.str r]] ∧ l.length ≤ 1 ∧ r.length ≤ s.length ∧ ∀ p t, pTest i s = some (p, t) → l = flat p ∧ r = t := by
  have h1 := dropD_len s
  have h2 := dropD_len ((dropD s).drop 1)
  rw [List.length_drop] at h2
  have g1 := pg76 s (by omega)
  have g2 := pc60 (dropD s) [47]
  have g3 := pg76 ((dropD s).drop 1) (by rw [List.length_drop]; omega)
  rw [pTest]
  cases hv : pnum s with
  | none =>
    rw [hv] at g1
    refine ⟨[⟨3, i, 0, 255⟩], dropD s, ?_, by simp, by omega, fun p t e => by cases e⟩
    refine GC.walk tok mixed cfg0 Tryz.func72 rfl Tryz.call72 ?_; simp (config := { maxSteps := 2000000 }) -implicitDefEqProofs +contextual (disch := first | assumption | omega | decide +kernel) only [push_cast, ↓capI, br2_true, br2_false, frk_tt, frk_tf, frk_f, frkD_tt, frkD_tf, frkD_f, pk2_true, pk2_false, imp_true, seval, Nat.reduceLeDiff, Nat.reduceEqDiff, reduceCtorEq, ↓reduceIte, reduceCtorEq, fmN, fm0, take_N, toN1, slN_nil, encN, slN, cfg0, get_flat_part lenN, get_flat_drop lenN, len_flat lenN, V.rn, rns, qn, setPs, rnOs, Ob.rn, List.set_cons_zero, List.size_toArray, Tryz.ntmps72]
    refine callO.part0 [0] g1 (by decide) rfl rfl ⟨by rfl, by simp, trivial⟩ ?_
    simp (config := { maxSteps := 2000000 }) -implicitDefEqProofs +contextual (disch := first | assumption | omega | decide +kernel) only [push_cast, ↓capI, br2_true, br2_false, frk_tt, frk_tf, frk_f, frkD_tt, frkD_tf, frkD_f, pk2_true, pk2_false, imp_true, seval, Nat.reduceLeDiff, Nat.reduceEqDiff, reduceCtorEq, ↓reduceIte, reduceCtorEq, fmN, fm0, take_N, toN1, slN_nil, encN, slN, cfg0, get_flat_part lenN, get_flat_drop lenN, len_flat lenN, V.rn, rns, qn, setPs, rnOs, Ob.rn, List.set_cons_zero, List.size_toArray, numV]
    refine endG.gn (Gn.freeze (id := 1) rfl) ?_; refine endG.ret ([.dead]) (by first | rfl | simp [bel_LN, fmN, fm0, belN, bel_Ns, bel_slN, bel_slM, fzs_ok, getO, setO, fzs, fz, fzH, Nat.beq, fmN, fm0, take_N, toN1, slN_nil, tt_3, tt_4, tt_5, tt_9, tt_22, tt_42, tt_26, tt_43, tt_36, tt_63, tt_57, tt_59, encN, slN, cfg0, get_flat_part lenN, get_flat_drop lenN, len_flat lenN, V.rn, rns, qn, setPs, rnOs, Ob.rn, List.set_cons_zero, List.size_toArray, slM, slN, encN]) (by simp) (by simp [bel_LN, fmN, fm0, belN, bel_Ns, bel_slN, bel_slM, fzs_ok, imp, lenOK_iff, List.take_of_length_le, evRes, getT, getO, setO, fzs, fz, fzH, Nat.beq, retV, Res.then, ldT, ldR, mkV, getV, fmN, fm0, take_N, toN1, slN_nil, tt_3, tt_4, tt_5, tt_9, tt_22, tt_42, tt_26, tt_43, tt_36, tt_63, tt_57, tt_59, encN, slN, cfg0, get_flat_part lenN, get_flat_drop lenN, len_flat lenN, V.rn, rns, qn, setPs, rnOs, Ob.rn, List.set_cons_zero, List.size_toArray, Tryz.f72, slM, slN, encN]) (by first | rfl | simp [bel_LN, fmN, fm0, belN, bel_Ns, bel_slN, bel_slM, slM, slN, encN]) (by first | rfl | simp [bel_LN, fmN, fm0, belN, bel_Ns, bel_slN, bel_slM, slM, slN, encN])
  | some v =>
    rw [hv] at g1
    simp only
    cases hb : begins (dropD s) [47]
    · have e2 : cutP (dropD s) [47] = (dropD s, false) := by simp [cutP, hb]
      rw [hb, e2] at g2
      rw [if_neg (by simp)]
      have hz := and255 v
      refine ⟨[⟨3, i, v, 255⟩], dropD s, ?_, by simp, by omega, fun p t e => by cases e; exact ⟨rfl, rfl⟩⟩
      refine GC.walk tok mixed cfg0 Tryz.func72 rfl Tryz.call72 ?_; simp (config := { maxSteps := 2000000 }) -implicitDefEqProofs +contextual (disch := first | assumption | omega | decide +kernel) only [push_cast, ↓capI, br2_true, br2_false, frk_tt, frk_tf, frk_f, frkD_tt, frkD_tf, frkD_f, pk2_true, pk2_false, imp_true, seval, Nat.reduceLeDiff, Nat.reduceEqDiff, reduceCtorEq, ↓reduceIte, reduceCtorEq, fmN, fm0, take_N, toN1, slN_nil, encN, slN, cfg0, get_flat_part lenN, get_flat_drop lenN, len_flat lenN, V.rn, rns, qn, setPs, rnOs, Ob.rn, List.set_cons_zero, List.size_toArray, Tryz.ntmps72]
      refine callO.part0 [0] g1 (by decide) rfl rfl ⟨by rfl, by simp, trivial⟩ ?_
      simp (config := { maxSteps := 2000000 }) -implicitDefEqProofs +contextual (disch := first | assumption | omega | decide +kernel) only [push_cast, ↓capI, br2_true, br2_false, frk_tt, frk_tf, frk_f, frkD_tt, frkD_tf, frkD_f, pk2_true, pk2_false, imp_true, seval, Nat.reduceLeDiff, Nat.reduceEqDiff, reduceCtorEq, ↓reduceIte, reduceCtorEq, fmN, fm0, take_N, toN1, slN_nil, encN, slN, cfg0, get_flat_part lenN, get_flat_drop lenN, len_flat lenN, V.rn, rns, qn, setPs, rnOs, Ob.rn, List.set_cons_zero, List.size_toArray, numV]
      refine callO.part0 [0] g2 (by decide) rfl rfl ⟨by rfl, by simp, trivial⟩ ?_
      simp (config := { maxSteps := 2000000 }) -implicitDefEqProofs +contextual (disch := first | assumption | omega | decide +kernel) only [push_cast, ↓capI, br2_true, br2_false, frk_tt, frk_tf, frk_f, frkD_tt, frkD_tf, frkD_f, pk2_true, pk2_false, imp_true, seval, Nat.reduceLeDiff, Nat.reduceEqDiff, reduceCtorEq, ↓reduceIte, reduceCtorEq, fmN, fm0, take_N, toN1, slN_nil, encN, slN, cfg0, get_flat_part lenN, get_flat_drop lenN, len_flat lenN, V.rn, rns, qn, setPs, rnOs, Ob.rn, List.set_cons_zero, List.size_toArray, numV, hz]
      refine endG.gn (Gn.freeze (id := 1) rfl) ?_; refine endG.ret ([.dead]) (by first | rfl | simp [bel_LN, fmN, fm0, belN, bel_Ns, bel_slN, bel_slM, fzs_ok, getO, setO, fzs, fz, fzH, Nat.beq, fmN, fm0, take_N, toN1, slN_nil, tt_3, tt_4, tt_5, tt_9, tt_22, tt_42, tt_26, tt_43, tt_36, tt_63, tt_57, tt_59, encN, slN, cfg0, get_flat_part lenN, get_flat_drop lenN, len_flat lenN, V.rn, rns, qn, setPs, rnOs, Ob.rn, List.set_cons_zero, List.size_toArray, slM, slN, encN]) (by simp) (by simp [bel_LN, fmN, fm0, belN, bel_Ns, bel_slN, bel_slM, fzs_ok, imp, lenOK_iff, List.take_of_length_le, evRes, getT, getO, setO, fzs, fz, fzH, Nat.beq, retV, Res.then, ldT, ldR, mkV, getV, fmN, fm0, take_N, toN1, slN_nil, tt_3, tt_4, tt_5, tt_9, tt_22, tt_42, tt_26, tt_43, tt_36, tt_63, tt_57, tt_59, encN, slN, cfg0, get_flat_part lenN, get_flat_drop lenN, len_flat lenN, V.rn, rns, qn, setPs, rnOs, Ob.rn, List.set_cons_zero, List.size_toArray, Tryz.f72, slM, slN, encN]) (by first | rfl | simp [bel_LN, fmN, fm0, belN, bel_Ns, bel_slN, bel_slM, slM, slN, encN]) (by first | rfl | simp [bel_LN, fmN, fm0, belN, bel_Ns, bel_slN, bel_slM, slM, slN, encN])
    · have e2 : cutP (dropD s) [47] = ((dropD s).drop 1, true) := by simp [cutP, hb]
      rw [hb, e2] at g2
      rw [if_pos rfl]
      cases hm : pnum ((dropD s).drop 1) with
      | none =>
        rw [hm] at g3
        refine ⟨[⟨3, i, v, 0⟩], dropD ((dropD s).drop 1), ?_, by simp, by omega, fun p t e => by cases e⟩
        refine GC.walk tok mixed cfg0 Tryz.func72 rfl Tryz.call72 ?_; simp (config := { maxSteps := 2000000 }) -implicitDefEqProofs +contextual (disch := first | assumption | omega | decide +kernel) only [push_cast, ↓capI, br2_true, br2_false, frk_tt, frk_tf, frk_f, frkD_tt, frkD_tf, frkD_f, pk2_true, pk2_false, imp_true, seval, Nat.reduceLeDiff, Nat.reduceEqDiff, reduceCtorEq, ↓reduceIte, reduceCtorEq, fmN, fm0, take_N, toN1, slN_nil, encN, slN, cfg0, get_flat_part lenN, get_flat_drop lenN, len_flat lenN, V.rn, rns, qn, setPs, rnOs, Ob.rn, List.set_cons_zero, List.size_toArray, Tryz.ntmps72]
        refine callO.part0 [0] g1 (by decide) rfl rfl ⟨by rfl, by simp, trivial⟩ ?_
        simp (config := { maxSteps := 2000000 }) -implicitDefEqProofs +contextual (disch := first | assumption | omega | decide +kernel) only [push_cast, ↓capI, br2_true, br2_false, frk_tt, frk_tf, frk_f, frkD_tt, frkD_tf, frkD_f, pk2_true, pk2_false, imp_true, seval, Nat.reduceLeDiff, Nat.reduceEqDiff, reduceCtorEq, ↓reduceIte, reduceCtorEq, fmN, fm0, take_N, toN1, slN_nil, encN, slN, cfg0, get_flat_part lenN, get_flat_drop lenN, len_flat lenN, V.rn, rns, qn, setPs, rnOs, Ob.rn, List.set_cons_zero, List.size_toArray, numV]
        refine callO.part0 [0] g2 (by decide) rfl rfl ⟨by rfl, by simp, trivial⟩ ?_
        simp (config := { maxSteps := 2000000 }) -implicitDefEqProofs +contextual (disch := first | assumption | omega | decide +kernel) only [push_cast, ↓capI, br2_true, br2_false, frk_tt, frk_tf, frk_f, frkD_tt, frkD_tf, frkD_f, pk2_true, pk2_false, imp_true, seval, Nat.reduceLeDiff, Nat.reduceEqDiff, reduceCtorEq, ↓reduceIte, reduceCtorEq, fmN, fm0, take_N, toN1, slN_nil, encN, slN, cfg0, get_flat_part lenN, get_flat_drop lenN, len_flat lenN, V.rn, rns, qn, setPs, rnOs, Ob.rn, List.set_cons_zero, List.size_toArray, numV]
        refine callO.part0 [0] g3 (by decide) rfl rfl ⟨by rfl, by simp, trivial⟩ ?_
        simp (config := { maxSteps := 2000000 }) -implicitDefEqProofs +contextual (disch := first | assumption | omega | decide +kernel) only [push_cast, ↓capI, br2_true, br2_false, frk_tt, frk_tf, frk_f, frkD_tt, frkD_tf, frkD_f, pk2_true, pk2_false, imp_true, seval, Nat.reduceLeDiff, Nat.reduceEqDiff, reduceCtorEq, ↓reduceIte, reduceCtorEq, fmN, fm0, take_N, toN1, slN_nil, encN, slN, cfg0, get_flat_part lenN, get_flat_drop lenN, len_flat lenN, V.rn, rns, qn, setPs, rnOs, Ob.rn, List.set_cons_zero, List.size_toArray, numV]
        refine endG.gn (Gn.freeze (id := 1) rfl) ?_; refine endG.ret ([.dead]) (by first | rfl | simp [bel_LN, fmN, fm0, belN, bel_Ns, bel_slN, bel_slM, fzs_ok, getO, setO, fzs, fz, fzH, Nat.beq, fmN, fm0, take_N, toN1, slN_nil, tt_3, tt_4, tt_5, tt_9, tt_22, tt_42, tt_26, tt_43, tt_36, tt_63, tt_57, tt_59, encN, slN, cfg0, get_flat_part lenN, get_flat_drop lenN, len_flat lenN, V.rn, rns, qn, setPs, rnOs, Ob.rn, List.set_cons_zero, List.size_toArray, slM, slN, encN]) (by simp) (by simp [bel_LN, fmN, fm0, belN, bel_Ns, bel_slN, bel_slM, fzs_ok, imp, lenOK_iff, List.take_of_length_le, evRes, getT, getO, setO, fzs, fz, fzH, Nat.beq, retV, Res.then, ldT, ldR, mkV, getV, fmN, fm0, take_N, toN1, slN_nil, tt_3, tt_4, tt_5, tt_9, tt_22, tt_42, tt_26, tt_43, tt_36, tt_63, tt_57, tt_59, encN, slN, cfg0, get_flat_part lenN, get_flat_drop lenN, len_flat lenN, V.rn, rns, qn, setPs, rnOs, Ob.rn, List.set_cons_zero, List.size_toArray, Tryz.f72, slM, slN, encN]) (by first | rfl | simp [bel_LN, fmN, fm0, belN, bel_Ns, bel_slN, bel_slM, slM, slN, encN]) (by first | rfl | simp [bel_LN, fmN, fm0, belN, bel_Ns, bel_slN, bel_slM, slM, slN, encN])
      | some m =>
        rw [hm] at g3
        simp only
        have hz : (ibits BinOp.andNot IntKind.u8 v.toNat m.toNat = 0) = (v &&& ~~~ m = 0) := by rw [andNot8, zero8]
        by_cases h0 : v &&& ~~~ m = 0
        · rw [if_pos h0]
          refine ⟨[⟨3, i, v, m⟩], dropD ((dropD s).drop 1), ?_, by simp, by omega, fun p t e => by cases e; exact ⟨rfl, rfl⟩⟩
          refine GC.walk tok mixed cfg0 Tryz.func72 rfl Tryz.call72 ?_; simp (config := { maxSteps := 2000000 }) -implicitDefEqProofs +contextual (disch := first | assumption | omega | decide +kernel) only [push_cast, ↓capI, br2_true, br2_false, frk_tt, frk_tf, frk_f, frkD_tt, frkD_tf, frkD_f, pk2_true, pk2_false, imp_true, seval, Nat.reduceLeDiff, Nat.reduceEqDiff, reduceCtorEq, ↓reduceIte, reduceCtorEq, fmN, fm0, take_N, toN1, slN_nil, encN, slN, cfg0, get_flat_part lenN, get_flat_drop lenN, len_flat lenN, V.rn, rns, qn, setPs, rnOs, Ob.rn, List.set_cons_zero, List.size_toArray, Tryz.ntmps72]
          refine callO.part0 [0] g1 (by decide) rfl rfl ⟨by rfl, by simp, trivial⟩ ?_
          simp (config := { maxSteps := 2000000 }) -implicitDefEqProofs +contextual (disch := first | assumption | omega | decide +kernel) only [push_cast, ↓capI, br2_true, br2_false, frk_tt, frk_tf, frk_f, frkD_tt, frkD_tf, frkD_f, pk2_true, pk2_false, imp_true, seval, Nat.reduceLeDiff, Nat.reduceEqDiff, reduceCtorEq, ↓reduceIte, reduceCtorEq, fmN, fm0, take_N, toN1, slN_nil, encN, slN, cfg0, get_flat_part lenN, get_flat_drop lenN, len_flat lenN, V.rn, rns, qn, setPs, rnOs, Ob.rn, List.set_cons_zero, List.size_toArray, numV]
          refine callO.part0 [0] g2 (by decide) rfl rfl ⟨by rfl, by simp, trivial⟩ ?_
          simp (config := { maxSteps := 2000000 }) -implicitDefEqProofs +contextual (disch := first | assumption | omega | decide +kernel) only [push_cast, ↓capI, br2_true, br2_false, frk_tt, frk_tf, frk_f, frkD_tt, frkD_tf, frkD_f, pk2_true, pk2_false, imp_true, seval, Nat.reduceLeDiff, Nat.reduceEqDiff, reduceCtorEq, ↓reduceIte, reduceCtorEq, fmN, fm0, take_N, toN1, slN_nil, encN, slN, cfg0, get_flat_part lenN, get_flat_drop lenN, len_flat lenN, V.rn, rns, qn, setPs, rnOs, Ob.rn, List.set_cons_zero, List.size_toArray, numV]
          refine callO.part0 [0] g3 (by decide) rfl rfl ⟨by rfl, by simp, trivial⟩ ?_
          simp (config := { maxSteps := 2000000 }) -implicitDefEqProofs +contextual (disch := first | assumption | omega | decide +kernel) only [push_cast, ↓capI, br2_true, br2_false, frk_tt, frk_tf, frk_f, frkD_tt, frkD_tf, frkD_f, pk2_true, pk2_false, imp_true, seval, Nat.reduceLeDiff, Nat.reduceEqDiff, reduceCtorEq, ↓reduceIte, reduceCtorEq, fmN, fm0, take_N, toN1, slN_nil, encN, slN, cfg0, get_flat_part lenN, get_flat_drop lenN, len_flat lenN, V.rn, rns, qn, setPs, rnOs, Ob.rn, List.set_cons_zero, List.size_toArray, numV, hz, h0]
          refine endG.gn (Gn.freeze (id := 1) rfl) ?_; refine endG.ret ([.dead]) (by first | rfl | simp [bel_LN, fmN, fm0, belN, bel_Ns, bel_slN, bel_slM, fzs_ok, getO, setO, fzs, fz, fzH, Nat.beq, fmN, fm0, take_N, toN1, slN_nil, tt_3, tt_4, tt_5, tt_9, tt_22, tt_42, tt_26, tt_43, tt_36, tt_63, tt_57, tt_59, encN, slN, cfg0, get_flat_part lenN, get_flat_drop lenN, len_flat lenN, V.rn, rns, qn, setPs, rnOs, Ob.rn, List.set_cons_zero, List.size_toArray, slM, slN, encN, hz, h0]) (by simp) (by simp [bel_LN, fmN, fm0, belN, bel_Ns, bel_slN, bel_slM, fzs_ok, imp, lenOK_iff, List.take_of_length_le, evRes, getT, getO, setO, fzs, fz, fzH, Nat.beq, retV, Res.then, ldT, ldR, mkV, getV, fmN, fm0, take_N, toN1, slN_nil, tt_3, tt_4, tt_5, tt_9, tt_22, tt_42, tt_26, tt_43, tt_36, tt_63, tt_57, tt_59, encN, slN, cfg0, get_flat_part lenN, get_flat_drop lenN, len_flat lenN, V.rn, rns, qn, setPs, rnOs, Ob.rn, List.set_cons_zero, List.size_toArray, Tryz.f72, slM, slN, encN, hz, h0]) (by first | rfl | simp [bel_LN, fmN, fm0, belN, bel_Ns, bel_slN, bel_slM, slM, slN, encN, hz, h0]) (by first | rfl | simp [bel_LN, fmN, fm0, belN, bel_Ns, bel_slN, bel_slM, slM, slN, encN, hz, h0])
        · rw [if_neg h0]
          refine ⟨[⟨3, i, v, m⟩], dropD ((dropD s).drop 1), ?_, by simp, by omega, fun p t e => by cases e⟩
          refine GC.walk tok mixed cfg0 Tryz.func72 rfl Tryz.call72 ?_; simp (config := { maxSteps := 2000000 }) -implicitDefEqProofs +contextual (disch := first | assumption | omega | decide +kernel) only [push_cast, ↓capI, br2_true, br2_false, frk_tt, frk_tf, frk_f, frkD_tt, frkD_tf, frkD_f, pk2_true, pk2_false, imp_true, seval, Nat.reduceLeDiff, Nat.reduceEqDiff, reduceCtorEq, ↓reduceIte, reduceCtorEq, fmN, fm0, take_N, toN1, slN_nil, encN, slN, cfg0, get_flat_part lenN, get_flat_drop lenN, len_flat lenN, V.rn, rns, qn, setPs, rnOs, Ob.rn, List.set_cons_zero, List.size_toArray, Tryz.ntmps72]
          refine callO.part0 [0] g1 (by decide) rfl rfl ⟨by rfl, by simp, trivial⟩ ?_
          simp (config := { maxSteps := 2000000 }) -implicitDefEqProofs +contextual (disch := first | assumption | omega | decide +kernel) only [push_cast, ↓capI, br2_true, br2_false, frk_tt, frk_tf, frk_f, frkD_tt, frkD_tf, frkD_f, pk2_true, pk2_false, imp_true, seval, Nat.reduceLeDiff, Nat.reduceEqDiff, reduceCtorEq, ↓reduceIte, reduceCtorEq, fmN, fm0, take_N, toN1, slN_nil, encN, slN, cfg0, get_flat_part lenN, get_flat_drop lenN, len_flat lenN, V.rn, rns, qn, setPs, rnOs, Ob.rn, List.set_cons_zero, List.size_toArray, numV]
          refine callO.part0 [0] g2 (by decide) rfl rfl ⟨by rfl, by simp, trivial⟩ ?_
          simp (config := { maxSteps := 2000000 }) -implicitDefEqProofs +contextual (disch := first | assumption | omega | decide +kernel) only [push_cast, ↓capI, br2_true, br2_false, frk_tt, frk_tf, frk_f, frkD_tt, frkD_tf, frkD_f, pk2_true, pk2_false, imp_true, seval, Nat.reduceLeDiff, Nat.reduceEqDiff, reduceCtorEq, ↓reduceIte, reduceCtorEq, fmN, fm0, take_N, toN1, slN_nil, encN, slN, cfg0, get_flat_part lenN, get_flat_drop lenN, len_flat lenN, V.rn, rns, qn, setPs, rnOs, Ob.rn, List.set_cons_zero, List.size_toArray, numV]
          refine callO.part0 [0] g3 (by decide) rfl rfl ⟨by rfl, by simp, trivial⟩ ?_
          simp (config := { maxSteps := 2000000 }) -implicitDefEqProofs +contextual (disch := first | assumption | omega | decide +kernel) only [push_cast, ↓capI, br2_true, br2_false, frk_tt, frk_tf, frk_f, frkD_tt, frkD_tf, frkD_f, pk2_true, pk2_false, imp_true, seval, Nat.reduceLeDiff, Nat.reduceEqDiff, reduceCtorEq, ↓reduceIte, reduceCtorEq, fmN, fm0, take_N, toN1, slN_nil, encN, slN, cfg0, get_flat_part lenN, get_flat_drop lenN, len_flat lenN, V.rn, rns, qn, setPs, rnOs, Ob.rn, List.set_cons_zero, List.size_toArray, numV, hz, h0]
          refine endG.gn (Gn.freeze (id := 1) rfl) ?_; refine endG.ret ([.dead]) (by first | rfl | simp [bel_LN, fmN, fm0, belN, bel_Ns, bel_slN, bel_slM, fzs_ok, getO, setO, fzs, fz, fzH, Nat.beq, fmN, fm0, take_N, toN1, slN_nil, tt_3, tt_4, tt_5, tt_9, tt_22, tt_42, tt_26, tt_43, tt_36, tt_63, tt_57, tt_59, encN, slN, cfg0, get_flat_part lenN, get_flat_drop lenN, len_flat lenN, V.rn, rns, qn, setPs, rnOs, Ob.rn, List.set_cons_zero, List.size_toArray, slM, slN, encN, hz, h0]) (by simp) (by simp [bel_LN, fmN, fm0, belN, bel_Ns, bel_slN, bel_slM, fzs_ok, imp, lenOK_iff, List.take_of_length_le, evRes, getT, getO, setO, fzs, fz, fzH, Nat.beq, retV, Res.then, ldT, ldR, mkV, getV, fmN, fm0, take_N, toN1, slN_nil, tt_3, tt_4, tt_5, tt_9, tt_22, tt_42, tt_26, tt_43, tt_36, tt_63, tt_57, tt_59, encN, slN, cfg0, get_flat_part lenN, get_flat_drop lenN, len_flat lenN, V.rn, rns, qn, setPs, rnOs, Ob.rn, List.set_cons_zero, List.size_toArray, Tryz.f72, slM, slN, encN, hz, h0]) (by first | rfl | simp [bel_LN, fmN, fm0, belN, bel_Ns, bel_slN, bel_slM, slM, slN, encN, hz, h0]) (by first | rfl | simp [bel_LN, fmN, fm0, belN, bel_Ns, bel_slN, bel_slM, slM, slN, encN, hz, h0])
end Go.Proofs.YtllfdnbnkncnhaaGreatDoor

/- Chapter 44: the program's parser. -/
set_option maxRecDepth 100000
set_option maxHeartbeats 4000000
set_option linter.all false
namespace Go.Proofs.YtllfdnbnkncnhaaGreatDoor
open Go.Vm

theorem st_M {l : List Nd} : (slM l).st = slM l := by unfold slM; split <;> rfl
theorem os_M {g : Bool} {l : List Nd} {xs : List V} {p : Prop} : optSide g (slM l :: xs) p = optSide g xs p := by unfold slM; split <;> rfl
theorem rn_slM {q : Nat → Nat} {l : List Nd} : (slM l).rn q = slM l := by
  unfold slM
  split
  · rfl
  · rw [slN, V.rn, rns_ok (bel_Ns l)]
theorem laxs_N : ∀ l : List Nd, laxs (l.flatMap encN) = l.flatMap encN
  | [] => rfl
  | x :: l => by rw [List.flatMap_cons, laxs_append, laxs_N l]; rfl
theorem lax_M (l : List Nd) : lax (slM l) = slN l := by
  unfold slM
  split
  · rename_i h
    rw [h]
    rfl
  · rw [slN, Go.Vm.lax, laxs_N]
theorem pc38m (o : Int) (a b : List Nd) (ha : a.length ≤ 4000000) (hb : b.length ≤ 4000000) : PC Tryz.prog 29 [.int .i64 o, slM a, slM b] (slM (jn o a b)) := by
  have h := pc29 o a b ha hb
  rw [slM_cons (l := jn o a b) (List.cons_ne_nil _ _)]
  refine PC.lax ?_
  rw [laxs, laxs, laxs, lax_M, lax_M]
  exact h
theorem acc_no {s p : List UInt8} (h : begins s p = false) : GCall Tryz.prog 60 [.ptr 0 0 0, .str p] [.cells 0 [.str s]] (.bool false) [.cells 0 [.str s]] := by
  have := pc60 s p
  rw [h, cutP, if_neg (by rw [h]; simp)] at this
  exact this
theorem acc_yes {s p : List UInt8} (h : begins s p = true) : GCall Tryz.prog 60 [.ptr 0 0 0, .str p] [.cells 0 [.str s]] (.bool true) [.cells 0 [.str (s.drop p.length)]] := by
  have := pc60 s p
  rw [h, cutP, if_pos h] at this
  exact this
def lstF (nx : List UInt8 → PR) (fl : List UInt8 → List Nd) (fr : List UInt8 → List UInt8) (o : Int) (c : UInt8) : Nat → List Nd → Bool → List UInt8 → List Nd × List UInt8 × Bool
  | 0, l, ok, r => (l, r, ok)
  | k + 1, l, ok, r => if ok = true ∧ begins r [c] = true then lstF nx fl fr o c k (jn o l (fl (r.drop 1))) ((nx (r.drop 1)).isSome) (fr (r.drop 1)) else (l, r, ok)
theorem lstF_law {nx : List UInt8 → PR} {fl : List UInt8 → List Nd} {fr : List UInt8 → List UInt8} {o : Int} {c : UInt8} {n : Nat}
    (h : ∀ s, s.length < n → (fl s).length + (fr s).length ≤ s.length ∧ ∀ p t, nx s = some (p, t) → fl s = flat p ∧ fr s = t) :
    ∀ (k : Nat) (l : List Nd) (x : PR) (r : List UInt8), (∀ p t, x = some (p, t) → l = flat p ∧ r = t) → r.length < k → r.length ≤ n →
    (lstF nx fl fr o c k l x.isSome r).1.length + (lstF nx fl fr o c k l x.isSome r).2.1.length ≤ l.length + r.length ∧
    (lstF nx fl fr o c k l x.isSome r).2.2 = (x.bind fun q => lst nx o c k q.1 q.2).isSome ∧
    ∀ p t, (x.bind fun q => lst nx o c k q.1 q.2) = some (p, t) → (lstF nx fl fr o c k l x.isSome r).1 = flat p ∧ (lstF nx fl fr o c k l x.isSome r).2.1 = t
  | 0, l, x, r, _, hk, _ => absurd hk (Nat.not_lt_zero _)
  | k + 1, l, x, r, hx, hk, hn => by
    cases x with
    | none =>
      rw [lstF, if_neg (by simp)]
      exact ⟨Nat.le_refl _, rfl, fun p t e => by cases e⟩
    | some q =>
      obtain ⟨p, t⟩ := q
      obtain ⟨rfl, rfl⟩ := hx p t rfl
      rw [lstF]
      show _ ∧ _ = (lst nx o c (k + 1) p r).isSome ∧ ∀ p' t', lst nx o c (k + 1) p r = some (p', t') → _
      rw [lst]
      by_cases hb : begins r [c] = true
      · have hl := begins_le hb
        simp only [List.length_cons, List.length_nil] at hl
        have hd : (r.drop 1).length = r.length - 1 := List.length_drop
        obtain ⟨h1, h2⟩ := h (r.drop 1) (by omega)
        rw [if_pos ⟨rfl, hb⟩, if_pos hb]
        cases hy : nx (r.drop 1) with
        | none =>
          have i := lstF_law (o := o) (c := c) h k (jn o (flat p) (fl (r.drop 1))) none (fr (r.drop 1)) (fun p t e => by cases e) (by omega) (by omega)
          rw [jn_len] at i
          exact ⟨by omega, i.2.1, fun p t e => by cases e⟩
        | some z =>
          obtain ⟨y, u⟩ := z
          obtain ⟨e1, e2⟩ := h2 y u hy
          have i := lstF_law (o := o) (c := c) h k (jn o (flat p) (fl (r.drop 1))) (some (.bin (op0 o) p y, u)) (fr (r.drop 1)) (fun p t e => by cases e; exact ⟨by rw [e1]; rfl, e2⟩) (by omega) (by omega)
          rw [jn_len] at i
          refine ⟨Nat.le_trans i.1 (by omega), i.2.1, i.2.2⟩
      · rw [if_neg (fun g => hb g.2), if_neg hb]
        exact ⟨Nat.le_refl _, rfl, fun p t e => by cases e; exact ⟨rfl, rfl⟩⟩
theorem pg54 (F : Nat) (nx : List UInt8 → PR) (o : Int) (c : UInt8) (n : Nat) (hn : n ≤ 100001) (h : ∀ s, s.length < n → Ans F [] s (nx s)) (s : List UInt8) (hs : s.length < n) :
    Ans 41 [.int .i64 o, .str [c], .fn (.func F) [.ptr 0 0 0] []] s (lstP nx o c s) := by
  have hc : ∃ (fl : List UInt8 → List Nd) (fr : List UInt8 → List UInt8), ∀ s, s.length < n → GCall Tryz.prog F [.ptr 0 0 0] [.cells 0 [.str s]] (.tup [slM (fl s), .bool (nx s).isSome]) [.cells 0 [.str (fr s)]] ∧
      (fl s).length + (fr s).length ≤ s.length ∧ ∀ p t, nx s = some (p, t) → fl s = flat p ∧ fr s = t := by
    refine ⟨fun s => if h1 : s.length < n then (h s h1).choose else [], fun s => if h1 : s.length < n then (h s h1).choose_spec.choose else [], fun s h1 => ?_⟩
    simp only [dif_pos h1]
    exact (h s h1).choose_spec.choose_spec
  obtain ⟨fl, fr, hf⟩ := hc
  have hlaw := fun l x r => lstF_law (nx := nx) (fl := fl) (fr := fr) (o := o) (c := c) (n := n) (fun s hs => (hf s hs).2) ((fr s).length + 1) l x r
  have h0 := hf s hs
  have law := hlaw (fl s) (nx s) (fr s) h0.2.2 (Nat.lt_succ_self _) (by omega)
  have eP : (nx s).bind (fun q => lst nx o c ((fr s).length + 1) q.1 q.2) = lstP nx o c s := by
    rw [lstP]
    cases hx : nx s with
    | none => rfl
    | some q =>
      obtain ⟨p, t⟩ := q
      rw [(h0.2.2 p t hx).2]
      rfl
  rw [eP] at law
  generalize hR : lstF nx fl fr o c ((fr s).length + 1) (fl s) (nx s).isSome (fr s) = R at law
  obtain ⟨L, U, OK⟩ := R
  simp only at law
  refine ⟨L, U, ?_, by omega, law.2.2⟩
  rw [← law.2.1]
  have g0 := h0.1
  refine GC.walk tok mixed cfg0 Tryz.func41 rfl Tryz.call41 ?_; simp (config := { maxSteps := 2000000 }) -implicitDefEqProofs +contextual (disch := first | assumption | omega | decide +kernel) only [push_cast, ↓capI, br2_true, br2_false, frk_tt, frk_tf, frk_f, frkD_tt, frkD_tf, frkD_f, pk2_true, pk2_false, imp_true, seval, Nat.reduceLeDiff, Nat.reduceEqDiff, reduceCtorEq, ↓reduceIte, reduceCtorEq, fmN, fm0, take_N, toN1, slN_nil, encN, slN, cfg0, get_flat_part lenN, get_flat_drop lenN, len_flat lenN, V.rn, rns, qn, setPs, rnOs, Ob.rn, List.set_cons_zero, List.size_toArray, st_M, os_M, rn_slM, Tryz.ntmps41]
  refine callO.part0 [0] g0 (by decide) rfl rfl ⟨by rfl, by simp, trivial⟩ ?_
  simp (config := { maxSteps := 2000000 }) -implicitDefEqProofs +contextual (disch := first | assumption | omega | decide +kernel) only [push_cast, ↓capI, br2_true, br2_false, frk_tt, frk_tf, frk_f, frkD_tt, frkD_tf, frkD_f, pk2_true, pk2_false, imp_true, seval, Nat.reduceLeDiff, Nat.reduceEqDiff, reduceCtorEq, ↓reduceIte, reduceCtorEq, fmN, fm0, take_N, toN1, slN_nil, encN, slN, cfg0, get_flat_part lenN, get_flat_drop lenN, len_flat lenN, V.rn, rns, qn, setPs, rnOs, Ob.rn, List.set_cons_zero, List.size_toArray, st_M, os_M, rn_slM]
  refine T.lp tok mixed cfg0 (fun ((l, ok, r) : List Nd × Bool × List UInt8) => kp 4 (dd 6 (sv (slM l) (sv (.bool ok) (dd 25 (nl)))))) (fun H0 ((l, ok, r) : List Nd × Bool × List UInt8) => [.cells 0 [.str r]]) (fun ((l, ok, r) : List Nd × Bool × List UInt8) => l.length + r.length ≤ s.length ∧ ∃ m, r.length < m ∧ lstF nx fl fr o c m l ok r = (L, U, OK)) (fun ((l, ok, r) : List Nd × Bool × List UInt8) => r.length) ((fl s, (nx s).isSome, fr s)) ?_ ?_ ?_
  · exact ⟨h0.2.1, _, Nat.lt_succ_self _, hR⟩
  · exact Gn.canon (J := []) (by first | rfl | (simp [List.append_nil]; done) | (simp [List.append_nil]; rfl)) (by simp [wk, slN, putT, kp, dd, sv, nl]) (by simp [List.length_append]) (by simp [bel_LN, fmN, fm0, belN, bel_Ns, bel_slN, bel_slM, kp, dd, sv, nl]) (by simp [bel_LN, fmN, fm0, belN, bel_Ns, bel_slN, bel_slM])
  rintro ⟨l, ok, r⟩ ⟨hl, m, hm, he⟩
  cases m with
  | zero => omega
  | succ m =>
  rw [lstF] at he
  cases ok
  · rw [if_neg (by simp)] at he
    cases he
    simp (config := { maxSteps := 2000000 }) -implicitDefEqProofs +contextual (disch := first | assumption | omega | decide +kernel) only [push_cast, ↓capI, br2_true, br2_false, frk_tt, frk_tf, frk_f, frkD_tt, frkD_tf, frkD_f, pk2_true, pk2_false, imp_true, seval, Nat.reduceLeDiff, Nat.reduceEqDiff, reduceCtorEq, ↓reduceIte, reduceCtorEq, fmN, fm0, take_N, toN1, slN_nil, encN, slN, cfg0, get_flat_part lenN, get_flat_drop lenN, len_flat lenN, V.rn, rns, qn, setPs, rnOs, Ob.rn, List.set_cons_zero, List.size_toArray, st_M, os_M, rn_slM]
    refine endG.ret ([]) (by first | rfl | simp [bel_LN, fmN, fm0, belN, bel_Ns, bel_slN, bel_slM, fzs_ok, getO, setO, fzs, fz, fzH, Nat.beq, fmN, fm0, take_N, toN1, slN_nil, tt_3, tt_4, tt_5, tt_9, tt_22, tt_42, tt_26, tt_43, tt_36, tt_63, tt_57, tt_59, tt_61, encN, slN, cfg0, get_flat_part lenN, get_flat_drop lenN, len_flat lenN, V.rn, rns, qn, setPs, rnOs, Ob.rn, List.set_cons_zero, List.size_toArray, st_M, os_M, rn_slM]) (by simp) (by simp [bel_LN, fmN, fm0, belN, bel_Ns, bel_slN, bel_slM, fzs_ok, imp, lenOK_iff, List.take_of_length_le, evRes, getT, getO, setO, fzs, fz, fzH, Nat.beq, retV, Res.then, ldT, ldR, mkV, getV, fmN, fm0, take_N, toN1, slN_nil, tt_3, tt_4, tt_5, tt_9, tt_22, tt_42, tt_26, tt_43, tt_36, tt_63, tt_57, tt_59, tt_61, encN, slN, cfg0, get_flat_part lenN, get_flat_drop lenN, len_flat lenN, V.rn, rns, qn, setPs, rnOs, Ob.rn, List.set_cons_zero, List.size_toArray, st_M, os_M, rn_slM, Tryz.f41]) (by first | rfl | simp [bel_LN, fmN, fm0, belN, bel_Ns, bel_slN, bel_slM]) (by first | rfl | simp [bel_LN, fmN, fm0, belN, bel_Ns, bel_slN, bel_slM])
  cases hb : begins r [c]
  · rw [if_neg (by rw [hb]; simp)] at he
    cases he
    simp (config := { maxSteps := 2000000 }) -implicitDefEqProofs +contextual (disch := first | assumption | omega | decide +kernel) only [push_cast, ↓capI, br2_true, br2_false, frk_tt, frk_tf, frk_f, frkD_tt, frkD_tf, frkD_f, pk2_true, pk2_false, imp_true, seval, Nat.reduceLeDiff, Nat.reduceEqDiff, reduceCtorEq, ↓reduceIte, reduceCtorEq, fmN, fm0, take_N, toN1, slN_nil, encN, slN, cfg0, get_flat_part lenN, get_flat_drop lenN, len_flat lenN, V.rn, rns, qn, setPs, rnOs, Ob.rn, List.set_cons_zero, List.size_toArray, st_M, os_M, rn_slM]
    refine callO.part0 [0] (acc_no hb) (by decide) rfl rfl ⟨by rfl, by simp, trivial⟩ ?_
    simp (config := { maxSteps := 2000000 }) -implicitDefEqProofs +contextual (disch := first | assumption | omega | decide +kernel) only [push_cast, ↓capI, br2_true, br2_false, frk_tt, frk_tf, frk_f, frkD_tt, frkD_tf, frkD_f, pk2_true, pk2_false, imp_true, seval, Nat.reduceLeDiff, Nat.reduceEqDiff, reduceCtorEq, ↓reduceIte, reduceCtorEq, fmN, fm0, take_N, toN1, slN_nil, encN, slN, cfg0, get_flat_part lenN, get_flat_drop lenN, len_flat lenN, V.rn, rns, qn, setPs, rnOs, Ob.rn, List.set_cons_zero, List.size_toArray, st_M, os_M, rn_slM]
    refine endG.ret ([]) (by first | rfl | simp [bel_LN, fmN, fm0, belN, bel_Ns, bel_slN, bel_slM, fzs_ok, getO, setO, fzs, fz, fzH, Nat.beq, fmN, fm0, take_N, toN1, slN_nil, tt_3, tt_4, tt_5, tt_9, tt_22, tt_42, tt_26, tt_43, tt_36, tt_63, tt_57, tt_59, tt_61, encN, slN, cfg0, get_flat_part lenN, get_flat_drop lenN, len_flat lenN, V.rn, rns, qn, setPs, rnOs, Ob.rn, List.set_cons_zero, List.size_toArray, st_M, os_M, rn_slM]) (by simp) (by simp [bel_LN, fmN, fm0, belN, bel_Ns, bel_slN, bel_slM, fzs_ok, imp, lenOK_iff, List.take_of_length_le, evRes, getT, getO, setO, fzs, fz, fzH, Nat.beq, retV, Res.then, ldT, ldR, mkV, getV, fmN, fm0, take_N, toN1, slN_nil, tt_3, tt_4, tt_5, tt_9, tt_22, tt_42, tt_26, tt_43, tt_36, tt_63, tt_57, tt_59, tt_61, encN, slN, cfg0, get_flat_part lenN, get_flat_drop lenN, len_flat lenN, V.rn, rns, qn, setPs, rnOs, Ob.rn, List.set_cons_zero, List.size_toArray, st_M, os_M, rn_slM, Tryz.f41]) (by first | rfl | simp [bel_LN, fmN, fm0, belN, bel_Ns, bel_slN, bel_slM]) (by first | rfl | simp [bel_LN, fmN, fm0, belN, bel_Ns, bel_slN, bel_slM])
  · have hbl := begins_le hb
    simp only [List.length_cons, List.length_nil] at hbl
    have hd : (r.drop 1).length = r.length - 1 := List.length_drop
    have hy := hf (r.drop 1) (by omega)
    rw [if_pos ⟨rfl, hb⟩] at he
    simp (config := { maxSteps := 2000000 }) -implicitDefEqProofs +contextual (disch := first | assumption | omega | decide +kernel) only [push_cast, ↓capI, br2_true, br2_false, frk_tt, frk_tf, frk_f, frkD_tt, frkD_tf, frkD_f, pk2_true, pk2_false, imp_true, seval, Nat.reduceLeDiff, Nat.reduceEqDiff, reduceCtorEq, ↓reduceIte, reduceCtorEq, fmN, fm0, take_N, toN1, slN_nil, encN, slN, cfg0, get_flat_part lenN, get_flat_drop lenN, len_flat lenN, V.rn, rns, qn, setPs, rnOs, Ob.rn, List.set_cons_zero, List.size_toArray, st_M, os_M, rn_slM]
    refine callO.part0 [0] (acc_yes hb) (by decide) rfl rfl ⟨by rfl, by simp, trivial⟩ ?_
    simp (config := { maxSteps := 2000000 }) -implicitDefEqProofs +contextual (disch := first | assumption | omega | decide +kernel) only [push_cast, ↓capI, br2_true, br2_false, frk_tt, frk_tf, frk_f, frkD_tt, frkD_tf, frkD_f, pk2_true, pk2_false, imp_true, seval, Nat.reduceLeDiff, Nat.reduceEqDiff, reduceCtorEq, ↓reduceIte, reduceCtorEq, fmN, fm0, take_N, toN1, slN_nil, encN, slN, cfg0, get_flat_part lenN, get_flat_drop lenN, len_flat lenN, V.rn, rns, qn, setPs, rnOs, Ob.rn, List.set_cons_zero, List.size_toArray, st_M, os_M, rn_slM, List.length_cons, List.length_nil]
    refine callO.part0 [0] hy.1 (by decide) rfl rfl ⟨by rfl, by simp, trivial⟩ ?_
    simp (config := { maxSteps := 2000000 }) -implicitDefEqProofs +contextual (disch := first | assumption | omega | decide +kernel) only [push_cast, ↓capI, br2_true, br2_false, frk_tt, frk_tf, frk_f, frkD_tt, frkD_tf, frkD_f, pk2_true, pk2_false, imp_true, seval, Nat.reduceLeDiff, Nat.reduceEqDiff, reduceCtorEq, ↓reduceIte, reduceCtorEq, fmN, fm0, take_N, toN1, slN_nil, encN, slN, cfg0, get_flat_part lenN, get_flat_drop lenN, len_flat lenN, V.rn, rns, qn, setPs, rnOs, Ob.rn, List.set_cons_zero, List.size_toArray, st_M, os_M, rn_slM]
    refine callO.pc (pc38m o l (fl (r.drop 1)) (by omega) (by omega)) ?_
    simp (config := { maxSteps := 2000000 }) -implicitDefEqProofs +contextual (disch := first | assumption | omega | decide +kernel) only [push_cast, ↓capI, br2_true, br2_false, frk_tt, frk_tf, frk_f, frkD_tt, frkD_tf, frkD_f, pk2_true, pk2_false, imp_true, seval, Nat.reduceLeDiff, Nat.reduceEqDiff, reduceCtorEq, ↓reduceIte, reduceCtorEq, fmN, fm0, take_N, toN1, slN_nil, encN, slN, cfg0, get_flat_part lenN, get_flat_drop lenN, len_flat lenN, V.rn, rns, qn, setPs, rnOs, Ob.rn, List.set_cons_zero, List.size_toArray, st_M, os_M, rn_slM]
    refine ⟨(jn o l (fl (r.drop 1)), (nx (r.drop 1)).isSome, fr (r.drop 1)), ⟨by (try simp only [jn_len]); omega, m, by (try simp only); omega, he⟩, by (try simp only); omega, ?_⟩; exact Gn.canon (by first | rfl | (simp [List.append_nil]; rfl)) (by simp [wk, slN]) (by simp [List.length_append]) (by simp [bel_LN, fmN, fm0, belN, bel_Ns, bel_slN, bel_slM]) (by simp [bel_LN, fmN, fm0, belN, bel_Ns, bel_slN, bel_slM])
theorem slM_nil : slM [] = .sl true [] 0 := rfl
theorem pgAnd {nx : List UInt8 → PR} {n : Nat} (hn : n ≤ 100001) (h : ∀ s, s.length < n → Ans 61 [] s (nx s)) (s : List UInt8) (hs : s.length < n) : Ans 42 [] s (lstP nx 5 38 s) := by
  obtain ⟨l, r, g, hl, hr⟩ := pg54 61 nx 5 38 n hn h s hs
  refine ⟨l, r, ?_, hl, hr⟩
  refine GC.walk tok mixed cfg0 Tryz.func42 rfl Tryz.call42 ?_; simp (config := { maxSteps := 2000000 }) -implicitDefEqProofs +contextual (disch := first | assumption | omega | decide +kernel) only [push_cast, ↓capI, br2_true, br2_false, frk_tt, frk_tf, frk_f, frkD_tt, frkD_tf, frkD_f, pk2_true, pk2_false, imp_true, seval, Nat.reduceLeDiff, Nat.reduceEqDiff, reduceCtorEq, ↓reduceIte, reduceCtorEq, fmN, fm0, take_N, toN1, slN_nil, encN, slN, cfg0, get_flat_part lenN, get_flat_drop lenN, len_flat lenN, V.rn, rns, qn, setPs, rnOs, Ob.rn, List.set_cons_zero, List.size_toArray, st_M, os_M, rn_slM, Tryz.ntmps42]
  refine callO.part0 [0] g (by decide) rfl rfl ⟨by rfl, by simp, trivial⟩ ?_
  simp (config := { maxSteps := 2000000 }) -implicitDefEqProofs +contextual (disch := first | assumption | omega | decide +kernel) only [push_cast, ↓capI, br2_true, br2_false, frk_tt, frk_tf, frk_f, frkD_tt, frkD_tf, frkD_f, pk2_true, pk2_false, imp_true, seval, Nat.reduceLeDiff, Nat.reduceEqDiff, reduceCtorEq, ↓reduceIte, reduceCtorEq, fmN, fm0, take_N, toN1, slN_nil, encN, slN, cfg0, get_flat_part lenN, get_flat_drop lenN, len_flat lenN, V.rn, rns, qn, setPs, rnOs, Ob.rn, List.set_cons_zero, List.size_toArray, st_M, os_M, rn_slM]
  refine endG.ret ([]) (by first | rfl | simp [bel_LN, fmN, fm0, belN, bel_Ns, bel_slN, bel_slM, fzs_ok, getO, setO, fzs, fz, fzH, Nat.beq, fmN, fm0, take_N, toN1, slN_nil, tt_3, tt_4, tt_5, tt_9, tt_22, tt_42, tt_26, tt_43, tt_36, tt_63, tt_57, tt_59, tt_61, encN, slN, cfg0, get_flat_part lenN, get_flat_drop lenN, len_flat lenN, V.rn, rns, qn, setPs, rnOs, Ob.rn, List.set_cons_zero, List.size_toArray, st_M, os_M, rn_slM]) (by simp) (by simp [bel_LN, fmN, fm0, belN, bel_Ns, bel_slN, bel_slM, fzs_ok, imp, lenOK_iff, List.take_of_length_le, evRes, getT, getO, setO, fzs, fz, fzH, Nat.beq, retV, Res.then, ldT, ldR, mkV, getV, fmN, fm0, take_N, toN1, slN_nil, tt_3, tt_4, tt_5, tt_9, tt_22, tt_42, tt_26, tt_43, tt_36, tt_63, tt_57, tt_59, tt_61, encN, slN, cfg0, get_flat_part lenN, get_flat_drop lenN, len_flat lenN, V.rn, rns, qn, setPs, rnOs, Ob.rn, List.set_cons_zero, List.size_toArray, st_M, os_M, rn_slM, Tryz.f42]) (by first | rfl | simp [bel_LN, fmN, fm0, belN, bel_Ns, bel_slN, bel_slM]) (by first | rfl | simp [bel_LN, fmN, fm0, belN, bel_Ns, bel_slN, bel_slM])
theorem pgOr {nx : List UInt8 → PR} {n : Nat} (hn : n ≤ 100001) (h : ∀ s, s.length < n → Ans 42 [] s (nx s)) (s : List UInt8) (hs : s.length < n) : Ans 24 [] s (lstP nx 6 124 s) := by
  obtain ⟨l, r, g, hl, hr⟩ := pg54 42 nx 6 124 n hn h s hs
  refine ⟨l, r, ?_, hl, hr⟩
  refine GC.walk tok mixed cfg0 Tryz.func24 rfl Tryz.call24 ?_; simp (config := { maxSteps := 2000000 }) -implicitDefEqProofs +contextual (disch := first | assumption | omega | decide +kernel) only [push_cast, ↓capI, br2_true, br2_false, frk_tt, frk_tf, frk_f, frkD_tt, frkD_tf, frkD_f, pk2_true, pk2_false, imp_true, seval, Nat.reduceLeDiff, Nat.reduceEqDiff, reduceCtorEq, ↓reduceIte, reduceCtorEq, fmN, fm0, take_N, toN1, slN_nil, encN, slN, cfg0, get_flat_part lenN, get_flat_drop lenN, len_flat lenN, V.rn, rns, qn, setPs, rnOs, Ob.rn, List.set_cons_zero, List.size_toArray, st_M, os_M, rn_slM, Tryz.ntmps24]
  refine callO.part0 [0] g (by decide) rfl rfl ⟨by rfl, by simp, trivial⟩ ?_
  simp (config := { maxSteps := 2000000 }) -implicitDefEqProofs +contextual (disch := first | assumption | omega | decide +kernel) only [push_cast, ↓capI, br2_true, br2_false, frk_tt, frk_tf, frk_f, frkD_tt, frkD_tf, frkD_f, pk2_true, pk2_false, imp_true, seval, Nat.reduceLeDiff, Nat.reduceEqDiff, reduceCtorEq, ↓reduceIte, reduceCtorEq, fmN, fm0, take_N, toN1, slN_nil, encN, slN, cfg0, get_flat_part lenN, get_flat_drop lenN, len_flat lenN, V.rn, rns, qn, setPs, rnOs, Ob.rn, List.set_cons_zero, List.size_toArray, st_M, os_M, rn_slM]
  refine endG.ret ([]) (by first | rfl | simp [bel_LN, fmN, fm0, belN, bel_Ns, bel_slN, bel_slM, fzs_ok, getO, setO, fzs, fz, fzH, Nat.beq, fmN, fm0, take_N, toN1, slN_nil, tt_3, tt_4, tt_5, tt_9, tt_22, tt_42, tt_26, tt_43, tt_36, tt_63, tt_57, tt_59, tt_61, encN, slN, cfg0, get_flat_part lenN, get_flat_drop lenN, len_flat lenN, V.rn, rns, qn, setPs, rnOs, Ob.rn, List.set_cons_zero, List.size_toArray, st_M, os_M, rn_slM]) (by simp) (by simp [bel_LN, fmN, fm0, belN, bel_Ns, bel_slN, bel_slM, fzs_ok, imp, lenOK_iff, List.take_of_length_le, evRes, getT, getO, setO, fzs, fz, fzH, Nat.beq, retV, Res.then, ldT, ldR, mkV, getV, fmN, fm0, take_N, toN1, slN_nil, tt_3, tt_4, tt_5, tt_9, tt_22, tt_42, tt_26, tt_43, tt_36, tt_63, tt_57, tt_59, tt_61, encN, slN, cfg0, get_flat_part lenN, get_flat_drop lenN, len_flat lenN, V.rn, rns, qn, setPs, rnOs, Ob.rn, List.set_cons_zero, List.size_toArray, st_M, os_M, rn_slM, Tryz.f24]) (by first | rfl | simp [bel_LN, fmN, fm0, belN, bel_Ns, bel_slN, bel_slM]) (by first | rfl | simp [bel_LN, fmN, fm0, belN, bel_Ns, bel_slN, bel_slM])
end Go.Proofs.YtllfdnbnkncnhaaGreatDoor

/- Chapter 44: the program's parser: operands. -/
set_option maxRecDepth 100000
set_option maxHeartbeats 4000000
set_option linter.all false
namespace Go.Proofs.YtllfdnbnkncnhaaGreatDoor
open Go.Vm

/-- none of the first four readings -/
def noHead (s : List UInt8) : Prop := begins s [33] = false ∧ begins s [116, 114, 117, 101] = false ∧ begins s [102, 97, 108, 115, 101] = false ∧ begins s [40] = false
theorem fname_len4 (i : Int) : (fname i ++ [61]).length ≤ 5 := by
  unfold fname
  split
  · decide
  split <;> decide
theorem pg62f (s : List UInt8) (hs : s.length ≤ 100000) (hh : noHead s) (i0 : Nat) (hi : i0 ≤ 2) (hb : ∀ j : Nat, j < i0 → begins s (fname j ++ [61]) = false) (h : begins s (fname i0 ++ [61]) = true)
    (l : List Nd) (r : List UInt8) (ok : Bool) (g : GCall Tryz.prog 72 [.ptr 0 0 0, .int .i64 i0] [.cells 0 [.str (s.drop ((fname i0).length + 1))]] (.tup [slM l, .bool ok]) [.cells 0 [.str r]]) :
    GCall Tryz.prog 61 [.ptr 0 0 0] [.cells 0 [.str s]] (.tup [slM l, .bool ok]) [.cells 0 [.str r]] := by
  obtain ⟨h1, h2, h3, h4⟩ := hh
  refine GC.walk tok mixed cfg0 Tryz.func61 rfl Tryz.call61 ?_; simp (config := { maxSteps := 2000000 }) -implicitDefEqProofs +contextual (disch := first | assumption | omega | decide +kernel) only [push_cast, ↓capI, br2_true, br2_false, frk_tt, frk_tf, frk_f, frkD_tt, frkD_tf, frkD_f, pk2_true, pk2_false, imp_true, seval, Nat.reduceLeDiff, Nat.reduceEqDiff, reduceCtorEq, ↓reduceIte, reduceCtorEq, fmN, fm0, take_N, toN1, slN_nil, encN, slN, cfg0, get_flat_part lenN, get_flat_drop lenN, len_flat lenN, V.rn, rns, qn, setPs, rnOs, Ob.rn, List.set_cons_zero, List.size_toArray, st_M, os_M, rn_slM, Tryz.ntmps61]
  refine callO.part0 [0] (acc_no h1) (by decide) rfl rfl ⟨by rfl, by simp, trivial⟩ ?_
  simp (config := { maxSteps := 2000000 }) -implicitDefEqProofs +contextual (disch := first | assumption | omega | decide +kernel) only [push_cast, ↓capI, br2_true, br2_false, frk_tt, frk_tf, frk_f, frkD_tt, frkD_tf, frkD_f, pk2_true, pk2_false, imp_true, seval, Nat.reduceLeDiff, Nat.reduceEqDiff, reduceCtorEq, ↓reduceIte, reduceCtorEq, fmN, fm0, take_N, toN1, slN_nil, encN, slN, cfg0, get_flat_part lenN, get_flat_drop lenN, len_flat lenN, V.rn, rns, qn, setPs, rnOs, Ob.rn, List.set_cons_zero, List.size_toArray, st_M, os_M, rn_slM]
  refine callO.part0 [0] (acc_no h2) (by decide) rfl rfl ⟨by rfl, by simp, trivial⟩ ?_
  simp (config := { maxSteps := 2000000 }) -implicitDefEqProofs +contextual (disch := first | assumption | omega | decide +kernel) only [push_cast, ↓capI, br2_true, br2_false, frk_tt, frk_tf, frk_f, frkD_tt, frkD_tf, frkD_f, pk2_true, pk2_false, imp_true, seval, Nat.reduceLeDiff, Nat.reduceEqDiff, reduceCtorEq, ↓reduceIte, reduceCtorEq, fmN, fm0, take_N, toN1, slN_nil, encN, slN, cfg0, get_flat_part lenN, get_flat_drop lenN, len_flat lenN, V.rn, rns, qn, setPs, rnOs, Ob.rn, List.set_cons_zero, List.size_toArray, st_M, os_M, rn_slM]
  refine callO.part0 [0] (acc_no h3) (by decide) rfl rfl ⟨by rfl, by simp, trivial⟩ ?_
  simp (config := { maxSteps := 2000000 }) -implicitDefEqProofs +contextual (disch := first | assumption | omega | decide +kernel) only [push_cast, ↓capI, br2_true, br2_false, frk_tt, frk_tf, frk_f, frkD_tt, frkD_tf, frkD_f, pk2_true, pk2_false, imp_true, seval, Nat.reduceLeDiff, Nat.reduceEqDiff, reduceCtorEq, ↓reduceIte, reduceCtorEq, fmN, fm0, take_N, toN1, slN_nil, encN, slN, cfg0, get_flat_part lenN, get_flat_drop lenN, len_flat lenN, V.rn, rns, qn, setPs, rnOs, Ob.rn, List.set_cons_zero, List.size_toArray, st_M, os_M, rn_slM]
  refine callO.part0 [0] (acc_no h4) (by decide) rfl rfl ⟨by rfl, by simp, trivial⟩ ?_
  simp (config := { maxSteps := 2000000 }) -implicitDefEqProofs +contextual (disch := first | assumption | omega | decide +kernel) only [push_cast, ↓capI, br2_true, br2_false, frk_tt, frk_tf, frk_f, frkD_tt, frkD_tf, frkD_f, pk2_true, pk2_false, imp_true, seval, Nat.reduceLeDiff, Nat.reduceEqDiff, reduceCtorEq, ↓reduceIte, reduceCtorEq, fmN, fm0, take_N, toN1, slN_nil, encN, slN, cfg0, get_flat_part lenN, get_flat_drop lenN, len_flat lenN, V.rn, rns, qn, setPs, rnOs, Ob.rn, List.set_cons_zero, List.size_toArray, st_M, os_M, rn_slM]
  refine T.lp tok mixed cfg0 (fun (i : Nat) => kp 1 (dd 1 (sv (.sl true [] 0) (sv (.bool false) (dd 4 (sv (.int .i64 i) (dd 49 (nl)))))))) (fun H0 (i : Nat) => [.cells 0 [.str s]]) (fun (i : Nat) => i ≤ i0) (fun (i : Nat) => 3 - i) (0) ?_ ?_ ?_
  · exact Nat.zero_le _
  · exact Gn.canon (J := []) (by first | rfl | (simp [List.append_nil]; done) | (simp [List.append_nil]; rfl)) (by simp [wk, slN, putT, kp, dd, sv, nl]) (by simp [List.length_append]) (by simp [bel_LN, fmN, fm0, belN, bel_Ns, bel_slN, bel_slM, kp, dd, sv, nl]) (by simp [bel_LN, fmN, fm0, belN, bel_Ns, bel_slN, bel_slM])
  intro i hi2
  have hlen := fname_len4 i
  rw [List.length_append, List.length_singleton] at hlen
  simp (config := { maxSteps := 2000000 }) -implicitDefEqProofs +contextual (disch := first | assumption | omega | decide +kernel) only [push_cast, ↓capI, br2_true, br2_false, frk_tt, frk_tf, frk_f, frkD_tt, frkD_tf, frkD_f, pk2_true, pk2_false, imp_true, seval, Nat.reduceLeDiff, Nat.reduceEqDiff, reduceCtorEq, ↓reduceIte, reduceCtorEq, fmN, fm0, take_N, toN1, slN_nil, encN, slN, cfg0, get_flat_part lenN, get_flat_drop lenN, len_flat lenN, V.rn, rns, qn, setPs, rnOs, Ob.rn, List.set_cons_zero, List.size_toArray, st_M, os_M, rn_slM]
  refine callO.pc (pc43 i) ?_
  simp (config := { maxSteps := 2000000 }) -implicitDefEqProofs +contextual (disch := first | assumption | omega | decide +kernel) only [push_cast, ↓capI, br2_true, br2_false, frk_tt, frk_tf, frk_f, frkD_tt, frkD_tf, frkD_f, pk2_true, pk2_false, imp_true, seval, Nat.reduceLeDiff, Nat.reduceEqDiff, reduceCtorEq, ↓reduceIte, reduceCtorEq, fmN, fm0, take_N, toN1, slN_nil, encN, slN, cfg0, get_flat_part lenN, get_flat_drop lenN, len_flat lenN, V.rn, rns, qn, setPs, rnOs, Ob.rn, List.set_cons_zero, List.size_toArray, st_M, os_M, rn_slM]
  by_cases e : i = i0
  · subst e
    refine callO.part0 [0] (acc_yes h) (by decide) rfl rfl ⟨by rfl, by simp, trivial⟩ ?_
    simp (config := { maxSteps := 2000000 }) -implicitDefEqProofs +contextual (disch := first | assumption | omega | decide +kernel) only [push_cast, ↓capI, br2_true, br2_false, frk_tt, frk_tf, frk_f, frkD_tt, frkD_tf, frkD_f, pk2_true, pk2_false, imp_true, seval, Nat.reduceLeDiff, Nat.reduceEqDiff, reduceCtorEq, ↓reduceIte, reduceCtorEq, fmN, fm0, take_N, toN1, slN_nil, encN, slN, cfg0, get_flat_part lenN, get_flat_drop lenN, len_flat lenN, V.rn, rns, qn, setPs, rnOs, Ob.rn, List.set_cons_zero, List.size_toArray, st_M, os_M, rn_slM]
    refine callO.part0 [0] g (by decide) rfl rfl ⟨by rfl, by simp, trivial⟩ ?_
    simp (config := { maxSteps := 2000000 }) -implicitDefEqProofs +contextual (disch := first | assumption | omega | decide +kernel) only [push_cast, ↓capI, br2_true, br2_false, frk_tt, frk_tf, frk_f, frkD_tt, frkD_tf, frkD_f, pk2_true, pk2_false, imp_true, seval, Nat.reduceLeDiff, Nat.reduceEqDiff, reduceCtorEq, ↓reduceIte, reduceCtorEq, fmN, fm0, take_N, toN1, slN_nil, encN, slN, cfg0, get_flat_part lenN, get_flat_drop lenN, len_flat lenN, V.rn, rns, qn, setPs, rnOs, Ob.rn, List.set_cons_zero, List.size_toArray, st_M, os_M, rn_slM]
    refine endG.ret ([]) (by first | rfl | simp [bel_LN, fmN, fm0, belN, bel_Ns, bel_slN, bel_slM, fzs_ok, getO, setO, fzs, fz, fzH, Nat.beq, fmN, fm0, take_N, toN1, slN_nil, tt_3, tt_4, tt_5, tt_9, tt_22, tt_42, tt_26, tt_43, tt_36, tt_63, tt_57, tt_59, tt_61, encN, slN, cfg0, get_flat_part lenN, get_flat_drop lenN, len_flat lenN, V.rn, rns, qn, setPs, rnOs, Ob.rn, List.set_cons_zero, List.size_toArray, st_M, os_M, rn_slM]) (by simp) (by simp [bel_LN, fmN, fm0, belN, bel_Ns, bel_slN, bel_slM, fzs_ok, imp, lenOK_iff, List.take_of_length_le, evRes, getT, getO, setO, fzs, fz, fzH, Nat.beq, retV, Res.then, ldT, ldR, mkV, getV, fmN, fm0, take_N, toN1, slN_nil, tt_3, tt_4, tt_5, tt_9, tt_22, tt_42, tt_26, tt_43, tt_36, tt_63, tt_57, tt_59, tt_61, encN, slN, cfg0, get_flat_part lenN, get_flat_drop lenN, len_flat lenN, V.rn, rns, qn, setPs, rnOs, Ob.rn, List.set_cons_zero, List.size_toArray, st_M, os_M, rn_slM, Tryz.f61]) (by first | rfl | simp [bel_LN, fmN, fm0, belN, bel_Ns, bel_slN, bel_slM]) (by first | rfl | simp [bel_LN, fmN, fm0, belN, bel_Ns, bel_slN, bel_slM])
  · refine callO.part0 [0] (acc_no (hb i (by omega))) (by decide) rfl rfl ⟨by rfl, by simp, trivial⟩ ?_
    simp (config := { maxSteps := 2000000 }) -implicitDefEqProofs +contextual (disch := first | assumption | omega | decide +kernel) only [push_cast, ↓capI, br2_true, br2_false, frk_tt, frk_tf, frk_f, frkD_tt, frkD_tf, frkD_f, pk2_true, pk2_false, imp_true, seval, Nat.reduceLeDiff, Nat.reduceEqDiff, reduceCtorEq, ↓reduceIte, reduceCtorEq, fmN, fm0, take_N, toN1, slN_nil, encN, slN, cfg0, get_flat_part lenN, get_flat_drop lenN, len_flat lenN, V.rn, rns, qn, setPs, rnOs, Ob.rn, List.set_cons_zero, List.size_toArray, st_M, os_M, rn_slM]
    refine ⟨i + 1, by omega, by (try simp only); omega, ?_⟩; exact Gn.canon (by first | rfl | (simp [List.append_nil]; rfl)) (by simp [wk, slN]) (by simp [List.length_append]) (by simp [bel_LN, fmN, fm0, belN, bel_Ns, bel_slN, bel_slM]) (by simp [bel_LN, fmN, fm0, belN, bel_Ns, bel_slN, bel_slM])
theorem pg62n (s : List UInt8) (hs : s.length ≤ 100000) (hh : noHead s) (hb : ∀ j : Nat, j < 3 → begins s (fname j ++ [61]) = false) :
    GCall Tryz.prog 61 [.ptr 0 0 0] [.cells 0 [.str s]] (.tup [slM [], .bool false]) [.cells 0 [.str s]] := by
  obtain ⟨h1, h2, h3, h4⟩ := hh
  refine GC.walk tok mixed cfg0 Tryz.func61 rfl Tryz.call61 ?_; simp (config := { maxSteps := 2000000 }) -implicitDefEqProofs +contextual (disch := first | assumption | omega | decide +kernel) only [push_cast, ↓capI, br2_true, br2_false, frk_tt, frk_tf, frk_f, frkD_tt, frkD_tf, frkD_f, pk2_true, pk2_false, imp_true, seval, Nat.reduceLeDiff, Nat.reduceEqDiff, reduceCtorEq, ↓reduceIte, reduceCtorEq, fmN, fm0, take_N, toN1, slN_nil, encN, slN, cfg0, get_flat_part lenN, get_flat_drop lenN, len_flat lenN, V.rn, rns, qn, setPs, rnOs, Ob.rn, List.set_cons_zero, List.size_toArray, st_M, os_M, rn_slM, Tryz.ntmps61]
  refine callO.part0 [0] (acc_no h1) (by decide) rfl rfl ⟨by rfl, by simp, trivial⟩ ?_
  simp (config := { maxSteps := 2000000 }) -implicitDefEqProofs +contextual (disch := first | assumption | omega | decide +kernel) only [push_cast, ↓capI, br2_true, br2_false, frk_tt, frk_tf, frk_f, frkD_tt, frkD_tf, frkD_f, pk2_true, pk2_false, imp_true, seval, Nat.reduceLeDiff, Nat.reduceEqDiff, reduceCtorEq, ↓reduceIte, reduceCtorEq, fmN, fm0, take_N, toN1, slN_nil, encN, slN, cfg0, get_flat_part lenN, get_flat_drop lenN, len_flat lenN, V.rn, rns, qn, setPs, rnOs, Ob.rn, List.set_cons_zero, List.size_toArray, st_M, os_M, rn_slM]
  refine callO.part0 [0] (acc_no h2) (by decide) rfl rfl ⟨by rfl, by simp, trivial⟩ ?_
  simp (config := { maxSteps := 2000000 }) -implicitDefEqProofs +contextual (disch := first | assumption | omega | decide +kernel) only [push_cast, ↓capI, br2_true, br2_false, frk_tt, frk_tf, frk_f, frkD_tt, frkD_tf, frkD_f, pk2_true, pk2_false, imp_true, seval, Nat.reduceLeDiff, Nat.reduceEqDiff, reduceCtorEq, ↓reduceIte, reduceCtorEq, fmN, fm0, take_N, toN1, slN_nil, encN, slN, cfg0, get_flat_part lenN, get_flat_drop lenN, len_flat lenN, V.rn, rns, qn, setPs, rnOs, Ob.rn, List.set_cons_zero, List.size_toArray, st_M, os_M, rn_slM]
  refine callO.part0 [0] (acc_no h3) (by decide) rfl rfl ⟨by rfl, by simp, trivial⟩ ?_
  simp (config := { maxSteps := 2000000 }) -implicitDefEqProofs +contextual (disch := first | assumption | omega | decide +kernel) only [push_cast, ↓capI, br2_true, br2_false, frk_tt, frk_tf, frk_f, frkD_tt, frkD_tf, frkD_f, pk2_true, pk2_false, imp_true, seval, Nat.reduceLeDiff, Nat.reduceEqDiff, reduceCtorEq, ↓reduceIte, reduceCtorEq, fmN, fm0, take_N, toN1, slN_nil, encN, slN, cfg0, get_flat_part lenN, get_flat_drop lenN, len_flat lenN, V.rn, rns, qn, setPs, rnOs, Ob.rn, List.set_cons_zero, List.size_toArray, st_M, os_M, rn_slM]
  refine callO.part0 [0] (acc_no h4) (by decide) rfl rfl ⟨by rfl, by simp, trivial⟩ ?_
  simp (config := { maxSteps := 2000000 }) -implicitDefEqProofs +contextual (disch := first | assumption | omega | decide +kernel) only [push_cast, ↓capI, br2_true, br2_false, frk_tt, frk_tf, frk_f, frkD_tt, frkD_tf, frkD_f, pk2_true, pk2_false, imp_true, seval, Nat.reduceLeDiff, Nat.reduceEqDiff, reduceCtorEq, ↓reduceIte, reduceCtorEq, fmN, fm0, take_N, toN1, slN_nil, encN, slN, cfg0, get_flat_part lenN, get_flat_drop lenN, len_flat lenN, V.rn, rns, qn, setPs, rnOs, Ob.rn, List.set_cons_zero, List.size_toArray, st_M, os_M, rn_slM]
  refine T.lp tok mixed cfg0 (fun (i : Nat) => kp 1 (dd 1 (sv (.sl true [] 0) (sv (.bool false) (dd 4 (sv (.int .i64 i) (dd 49 (nl)))))))) (fun H0 (i : Nat) => [.cells 0 [.str s]]) (fun (i : Nat) => i ≤ 3) (fun (i : Nat) => 3 - i) (0) ?_ ?_ ?_
  · exact Nat.zero_le _
  · exact Gn.canon (J := []) (by first | rfl | (simp [List.append_nil]; done) | (simp [List.append_nil]; rfl)) (by simp [wk, slN, putT, kp, dd, sv, nl]) (by simp [List.length_append]) (by simp [bel_LN, fmN, fm0, belN, bel_Ns, bel_slN, bel_slM, kp, dd, sv, nl]) (by simp [bel_LN, fmN, fm0, belN, bel_Ns, bel_slN, bel_slM])
  intro i hi2
  have hlen := fname_len4 i
  rw [List.length_append, List.length_singleton] at hlen
  by_cases h : i < 3
  · simp (config := { maxSteps := 2000000 }) -implicitDefEqProofs +contextual (disch := first | assumption | omega | decide +kernel) only [push_cast, ↓capI, br2_true, br2_false, frk_tt, frk_tf, frk_f, frkD_tt, frkD_tf, frkD_f, pk2_true, pk2_false, imp_true, seval, Nat.reduceLeDiff, Nat.reduceEqDiff, reduceCtorEq, ↓reduceIte, reduceCtorEq, fmN, fm0, take_N, toN1, slN_nil, encN, slN, cfg0, get_flat_part lenN, get_flat_drop lenN, len_flat lenN, V.rn, rns, qn, setPs, rnOs, Ob.rn, List.set_cons_zero, List.size_toArray, st_M, os_M, rn_slM]
    refine callO.pc (pc43 i) ?_
    simp (config := { maxSteps := 2000000 }) -implicitDefEqProofs +contextual (disch := first | assumption | omega | decide +kernel) only [push_cast, ↓capI, br2_true, br2_false, frk_tt, frk_tf, frk_f, frkD_tt, frkD_tf, frkD_f, pk2_true, pk2_false, imp_true, seval, Nat.reduceLeDiff, Nat.reduceEqDiff, reduceCtorEq, ↓reduceIte, reduceCtorEq, fmN, fm0, take_N, toN1, slN_nil, encN, slN, cfg0, get_flat_part lenN, get_flat_drop lenN, len_flat lenN, V.rn, rns, qn, setPs, rnOs, Ob.rn, List.set_cons_zero, List.size_toArray, st_M, os_M, rn_slM]
    refine callO.part0 [0] (acc_no (hb i h)) (by decide) rfl rfl ⟨by rfl, by simp, trivial⟩ ?_
    simp (config := { maxSteps := 2000000 }) -implicitDefEqProofs +contextual (disch := first | assumption | omega | decide +kernel) only [push_cast, ↓capI, br2_true, br2_false, frk_tt, frk_tf, frk_f, frkD_tt, frkD_tf, frkD_f, pk2_true, pk2_false, imp_true, seval, Nat.reduceLeDiff, Nat.reduceEqDiff, reduceCtorEq, ↓reduceIte, reduceCtorEq, fmN, fm0, take_N, toN1, slN_nil, encN, slN, cfg0, get_flat_part lenN, get_flat_drop lenN, len_flat lenN, V.rn, rns, qn, setPs, rnOs, Ob.rn, List.set_cons_zero, List.size_toArray, st_M, os_M, rn_slM]
    refine ⟨i + 1, by omega, by (try simp only); omega, ?_⟩; exact Gn.canon (by first | rfl | (simp [List.append_nil]; rfl)) (by simp [wk, slN]) (by simp [List.length_append]) (by simp [bel_LN, fmN, fm0, belN, bel_Ns, bel_slN, bel_slM]) (by simp [bel_LN, fmN, fm0, belN, bel_Ns, bel_slN, bel_slM])
  · simp (config := { maxSteps := 2000000 }) -implicitDefEqProofs +contextual (disch := first | assumption | omega | decide +kernel) only [push_cast, ↓capI, br2_true, br2_false, frk_tt, frk_tf, frk_f, frkD_tt, frkD_tf, frkD_f, pk2_true, pk2_false, imp_true, seval, Nat.reduceLeDiff, Nat.reduceEqDiff, reduceCtorEq, ↓reduceIte, reduceCtorEq, fmN, fm0, take_N, toN1, slN_nil, encN, slN, cfg0, get_flat_part lenN, get_flat_drop lenN, len_flat lenN, V.rn, rns, qn, setPs, rnOs, Ob.rn, List.set_cons_zero, List.size_toArray, st_M, os_M, rn_slM]
    refine endG.ret ([]) (by first | rfl | simp [bel_LN, fmN, fm0, belN, bel_Ns, bel_slN, bel_slM, fzs_ok, getO, setO, fzs, fz, fzH, Nat.beq, fmN, fm0, take_N, toN1, slN_nil, tt_3, tt_4, tt_5, tt_9, tt_22, tt_42, tt_26, tt_43, tt_36, tt_63, tt_57, tt_59, tt_61, encN, slN, cfg0, get_flat_part lenN, get_flat_drop lenN, len_flat lenN, V.rn, rns, qn, setPs, rnOs, Ob.rn, List.set_cons_zero, List.size_toArray, st_M, os_M, rn_slM, slM_nil]) (by simp) (by simp [bel_LN, fmN, fm0, belN, bel_Ns, bel_slN, bel_slM, fzs_ok, imp, lenOK_iff, List.take_of_length_le, evRes, getT, getO, setO, fzs, fz, fzH, Nat.beq, retV, Res.then, ldT, ldR, mkV, getV, fmN, fm0, take_N, toN1, slN_nil, tt_3, tt_4, tt_5, tt_9, tt_22, tt_42, tt_26, tt_43, tt_36, tt_63, tt_57, tt_59, tt_61, encN, slN, cfg0, get_flat_part lenN, get_flat_drop lenN, len_flat lenN, V.rn, rns, qn, setPs, rnOs, Ob.rn, List.set_cons_zero, List.size_toArray, st_M, os_M, rn_slM, Tryz.f61, slM_nil]) (by first | rfl | simp [bel_LN, fmN, fm0, belN, bel_Ns, bel_slN, bel_slM, slM_nil]) (by first | rfl | simp [bel_LN, fmN, fm0, belN, bel_Ns, bel_slN, bel_slM, slM_nil])
theorem pgFld (s : List UInt8) (hs : s.length ≤ 100000) (hh : noHead s) : Ans 61 [] s (pFld s) := by
  have key : ∀ i0 : Nat, i0 ≤ 2 → (∀ j : Nat, j < i0 → begins s (fname j ++ [61]) = false) → begins s (fname i0 ++ [61]) = true → pFld s = pTest i0 (s.drop ((fname i0).length + 1)) → Ans 61 [] s (pFld s) := by
    intro i0 hi hb h e
    have hl := begins_le h
    rw [List.length_append, List.length_singleton] at hl
    obtain ⟨l, r, g, g1, g2, g3⟩ := pg68 i0 (s.drop ((fname i0).length + 1)) (by rw [List.length_drop]; omega)
    rw [List.length_drop] at g2
    rw [e]
    exact ⟨l, r, pg62f s hs hh i0 hi hb h l r _ g, by omega, g3⟩
  cases b0 : begins s (fname 0 ++ [61])
  case true => exact key 0 (by decide) (fun j hj => absurd hj (Nat.not_lt_zero j)) b0 (by rw [pFld, if_pos b0]; rfl)
  cases b1 : begins s (fname 1 ++ [61])
  case true =>
    refine key 1 (by decide) (fun j hj => ?_) b1 (by rw [pFld, if_neg (by rw [b0]; simp), if_pos b1]; rfl)
    have : j = 0 := by omega
    rw [this]; exact b0
  cases b2 : begins s (fname 2 ++ [61])
  case true =>
    refine key 2 (by decide) (fun j hj => ?_) b2 (by rw [pFld, if_neg (by rw [b0]; simp), if_neg (by rw [b1]; simp), if_pos b2]; rfl)
    have : j = 0 ∨ j = 1 := by omega
    rcases this with e | e <;> rw [e] <;> assumption
  have e : pFld s = none := by
    rw [pFld, if_neg (by rw [b0]; simp), if_neg (by rw [b1]; simp), if_neg (by rw [b2]; simp)]
  rw [e]
  refine ⟨[], s, pg62n s hs hh (fun j hj => ?_), by simp, fun p t e => by cases e⟩
  have : j = 0 ∨ j = 1 ∨ j = 2 := by omega
  rcases this with e | e | e <;> rw [e] <;> assumption
theorem pg62 : ∀ k, k ≤ 100001 → ∀ s : List UInt8, s.length < k → Ans 61 [] s (pNot k s)
  | 0, _, s, h => absurd h (Nat.not_lt_zero _)
  | k + 1, hk, s, hs => by
    have ih := pg62 k (by omega)
    rw [pNot]
    by_cases h1 : begins s [33] = true
    · have hl := begins_le h1
      simp only [List.length_cons, List.length_nil] at hl
      have hd : (s.drop 1).length = s.length - 1 := List.length_drop
      obtain ⟨l, r, g, g1, g2⟩ := ih (s.drop 1) (by omega)
      rw [if_pos h1]
      have hj := pc38m 4 l [] (by omega) (by simp)
      rw [slM_nil] at hj
      refine ⟨jn 4 l [], r, ?_, by rw [jn_len, List.length_nil]; omega, ?_⟩
      · have e : ((pNot k (s.drop 1)).map fun q => (Pr.un (op0 4) q.1, q.2)).isSome = (pNot k (s.drop 1)).isSome := by
          cases pNot k (s.drop 1) <;> rfl
        rw [e]
        refine GC.walk tok mixed cfg0 Tryz.func61 rfl Tryz.call61 ?_; simp (config := { maxSteps := 2000000 }) -implicitDefEqProofs +contextual (disch := first | assumption | omega | decide +kernel) only [push_cast, ↓capI, br2_true, br2_false, frk_tt, frk_tf, frk_f, frkD_tt, frkD_tf, frkD_f, pk2_true, pk2_false, imp_true, seval, Nat.reduceLeDiff, Nat.reduceEqDiff, reduceCtorEq, ↓reduceIte, reduceCtorEq, fmN, fm0, take_N, toN1, slN_nil, encN, slN, cfg0, get_flat_part lenN, get_flat_drop lenN, len_flat lenN, V.rn, rns, qn, setPs, rnOs, Ob.rn, List.set_cons_zero, List.size_toArray, st_M, os_M, rn_slM, Tryz.ntmps61]
        refine callO.part0 [0] (acc_yes h1) (by decide) rfl rfl ⟨by rfl, by simp, trivial⟩ ?_
        simp (config := { maxSteps := 2000000 }) -implicitDefEqProofs +contextual (disch := first | assumption | omega | decide +kernel) only [push_cast, ↓capI, br2_true, br2_false, frk_tt, frk_tf, frk_f, frkD_tt, frkD_tf, frkD_f, pk2_true, pk2_false, imp_true, seval, Nat.reduceLeDiff, Nat.reduceEqDiff, reduceCtorEq, ↓reduceIte, reduceCtorEq, fmN, fm0, take_N, toN1, slN_nil, encN, slN, cfg0, get_flat_part lenN, get_flat_drop lenN, len_flat lenN, V.rn, rns, qn, setPs, rnOs, Ob.rn, List.set_cons_zero, List.size_toArray, st_M, os_M, rn_slM, List.length_cons, List.length_nil]
        refine callO.part0 [0] g (by decide) rfl rfl ⟨by rfl, by simp, trivial⟩ ?_
        simp (config := { maxSteps := 2000000 }) -implicitDefEqProofs +contextual (disch := first | assumption | omega | decide +kernel) only [push_cast, ↓capI, br2_true, br2_false, frk_tt, frk_tf, frk_f, frkD_tt, frkD_tf, frkD_f, pk2_true, pk2_false, imp_true, seval, Nat.reduceLeDiff, Nat.reduceEqDiff, reduceCtorEq, ↓reduceIte, reduceCtorEq, fmN, fm0, take_N, toN1, slN_nil, encN, slN, cfg0, get_flat_part lenN, get_flat_drop lenN, len_flat lenN, V.rn, rns, qn, setPs, rnOs, Ob.rn, List.set_cons_zero, List.size_toArray, st_M, os_M, rn_slM]
        refine callO.pc hj ?_
        simp (config := { maxSteps := 2000000 }) -implicitDefEqProofs +contextual (disch := first | assumption | omega | decide +kernel) only [push_cast, ↓capI, br2_true, br2_false, frk_tt, frk_tf, frk_f, frkD_tt, frkD_tf, frkD_f, pk2_true, pk2_false, imp_true, seval, Nat.reduceLeDiff, Nat.reduceEqDiff, reduceCtorEq, ↓reduceIte, reduceCtorEq, fmN, fm0, take_N, toN1, slN_nil, encN, slN, cfg0, get_flat_part lenN, get_flat_drop lenN, len_flat lenN, V.rn, rns, qn, setPs, rnOs, Ob.rn, List.set_cons_zero, List.size_toArray, st_M, os_M, rn_slM]
        refine endG.ret ([]) (by first | rfl | simp [bel_LN, fmN, fm0, belN, bel_Ns, bel_slN, bel_slM, fzs_ok, getO, setO, fzs, fz, fzH, Nat.beq, fmN, fm0, take_N, toN1, slN_nil, tt_3, tt_4, tt_5, tt_9, tt_22, tt_42, tt_26, tt_43, tt_36, tt_63, tt_57, tt_59, tt_61, encN, slN, cfg0, get_flat_part lenN, get_flat_drop lenN, len_flat lenN, V.rn, rns, qn, setPs, rnOs, Ob.rn, List.set_cons_zero, List.size_toArray, st_M, os_M, rn_slM]) (by simp) (by simp [bel_LN, fmN, fm0, belN, bel_Ns, bel_slN, bel_slM, fzs_ok, imp, lenOK_iff, List.take_of_length_le, evRes, getT, getO, setO, fzs, fz, fzH, Nat.beq, retV, Res.then, ldT, ldR, mkV, getV, fmN, fm0, take_N, toN1, slN_nil, tt_3, tt_4, tt_5, tt_9, tt_22, tt_42, tt_26, tt_43, tt_36, tt_63, tt_57, tt_59, tt_61, encN, slN, cfg0, get_flat_part lenN, get_flat_drop lenN, len_flat lenN, V.rn, rns, qn, setPs, rnOs, Ob.rn, List.set_cons_zero, List.size_toArray, st_M, os_M, rn_slM, Tryz.f61]) (by first | rfl | simp [bel_LN, fmN, fm0, belN, bel_Ns, bel_slN, bel_slM]) (by first | rfl | simp [bel_LN, fmN, fm0, belN, bel_Ns, bel_slN, bel_slM])
      · intro p t e
        cases hn : pNot k (s.drop 1) with
        | none => rw [hn] at e; cases e
        | some q =>
          obtain ⟨y, u⟩ := q
          rw [hn] at e
          cases e
          obtain ⟨e1, e2⟩ := g2 _ _ hn
          refine ⟨?_, e2⟩
          rw [flat, ← e1, jn, List.append_nil]
          rfl
    have f1 := Bool.eq_false_iff.2 h1
    rw [if_neg h1]
    by_cases h2 : begins s [116, 114, 117, 101] = true
    · have hl := begins_le h2
      simp only [List.length_cons, List.length_nil] at hl
      rw [if_pos h2]
      refine ⟨[op0 1], s.drop 4, ?_, by rw [List.length_singleton, List.length_drop]; omega, fun p t e => by cases e; exact ⟨rfl, rfl⟩⟩
      refine GC.walk tok mixed cfg0 Tryz.func61 rfl Tryz.call61 ?_; simp (config := { maxSteps := 2000000 }) -implicitDefEqProofs +contextual (disch := first | assumption | omega | decide +kernel) only [push_cast, ↓capI, br2_true, br2_false, frk_tt, frk_tf, frk_f, frkD_tt, frkD_tf, frkD_f, pk2_true, pk2_false, imp_true, seval, Nat.reduceLeDiff, Nat.reduceEqDiff, reduceCtorEq, ↓reduceIte, reduceCtorEq, fmN, fm0, take_N, toN1, slN_nil, encN, slN, cfg0, get_flat_part lenN, get_flat_drop lenN, len_flat lenN, V.rn, rns, qn, setPs, rnOs, Ob.rn, List.set_cons_zero, List.size_toArray, st_M, os_M, rn_slM, Tryz.ntmps61]
      refine callO.part0 [0] (acc_no f1) (by decide) rfl rfl ⟨by rfl, by simp, trivial⟩ ?_
      simp (config := { maxSteps := 2000000 }) -implicitDefEqProofs +contextual (disch := first | assumption | omega | decide +kernel) only [push_cast, ↓capI, br2_true, br2_false, frk_tt, frk_tf, frk_f, frkD_tt, frkD_tf, frkD_f, pk2_true, pk2_false, imp_true, seval, Nat.reduceLeDiff, Nat.reduceEqDiff, reduceCtorEq, ↓reduceIte, reduceCtorEq, fmN, fm0, take_N, toN1, slN_nil, encN, slN, cfg0, get_flat_part lenN, get_flat_drop lenN, len_flat lenN, V.rn, rns, qn, setPs, rnOs, Ob.rn, List.set_cons_zero, List.size_toArray, st_M, os_M, rn_slM]
      refine callO.part0 [0] (acc_yes h2) (by decide) rfl rfl ⟨by rfl, by simp, trivial⟩ ?_
      simp (config := { maxSteps := 2000000 }) -implicitDefEqProofs +contextual (disch := first | assumption | omega | decide +kernel) only [push_cast, ↓capI, br2_true, br2_false, frk_tt, frk_tf, frk_f, frkD_tt, frkD_tf, frkD_f, pk2_true, pk2_false, imp_true, seval, Nat.reduceLeDiff, Nat.reduceEqDiff, reduceCtorEq, ↓reduceIte, reduceCtorEq, fmN, fm0, take_N, toN1, slN_nil, encN, slN, cfg0, get_flat_part lenN, get_flat_drop lenN, len_flat lenN, V.rn, rns, qn, setPs, rnOs, Ob.rn, List.set_cons_zero, List.size_toArray, st_M, os_M, rn_slM]
      refine endG.ret ([]) (by first | rfl | simp [bel_LN, fmN, fm0, belN, bel_Ns, bel_slN, bel_slM, fzs_ok, getO, setO, fzs, fz, fzH, Nat.beq, fmN, fm0, take_N, toN1, slN_nil, tt_3, tt_4, tt_5, tt_9, tt_22, tt_42, tt_26, tt_43, tt_36, tt_63, tt_57, tt_59, tt_61, encN, slN, cfg0, get_flat_part lenN, get_flat_drop lenN, len_flat lenN, V.rn, rns, qn, setPs, rnOs, Ob.rn, List.set_cons_zero, List.size_toArray, st_M, os_M, rn_slM, op0, slM, slN, encN]) (by simp) (by simp [bel_LN, fmN, fm0, belN, bel_Ns, bel_slN, bel_slM, fzs_ok, imp, lenOK_iff, List.take_of_length_le, evRes, getT, getO, setO, fzs, fz, fzH, Nat.beq, retV, Res.then, ldT, ldR, mkV, getV, fmN, fm0, take_N, toN1, slN_nil, tt_3, tt_4, tt_5, tt_9, tt_22, tt_42, tt_26, tt_43, tt_36, tt_63, tt_57, tt_59, tt_61, encN, slN, cfg0, get_flat_part lenN, get_flat_drop lenN, len_flat lenN, V.rn, rns, qn, setPs, rnOs, Ob.rn, List.set_cons_zero, List.size_toArray, st_M, os_M, rn_slM, Tryz.f61, op0, slM, slN, encN]) (by first | rfl | simp [bel_LN, fmN, fm0, belN, bel_Ns, bel_slN, bel_slM, op0, slM, slN, encN]) (by first | rfl | simp [bel_LN, fmN, fm0, belN, bel_Ns, bel_slN, bel_slM, op0, slM, slN, encN])
    have f2 := Bool.eq_false_iff.2 h2
    rw [if_neg h2]
    by_cases h3 : begins s [102, 97, 108, 115, 101] = true
    · have hl := begins_le h3
      simp only [List.length_cons, List.length_nil] at hl
      rw [if_pos h3]
      refine ⟨[op0 2], s.drop 5, ?_, by rw [List.length_singleton, List.length_drop]; omega, fun p t e => by cases e; exact ⟨rfl, rfl⟩⟩
      refine GC.walk tok mixed cfg0 Tryz.func61 rfl Tryz.call61 ?_; simp (config := { maxSteps := 2000000 }) -implicitDefEqProofs +contextual (disch := first | assumption | omega | decide +kernel) only [push_cast, ↓capI, br2_true, br2_false, frk_tt, frk_tf, frk_f, frkD_tt, frkD_tf, frkD_f, pk2_true, pk2_false, imp_true, seval, Nat.reduceLeDiff, Nat.reduceEqDiff, reduceCtorEq, ↓reduceIte, reduceCtorEq, fmN, fm0, take_N, toN1, slN_nil, encN, slN, cfg0, get_flat_part lenN, get_flat_drop lenN, len_flat lenN, V.rn, rns, qn, setPs, rnOs, Ob.rn, List.set_cons_zero, List.size_toArray, st_M, os_M, rn_slM, Tryz.ntmps61]
      refine callO.part0 [0] (acc_no f1) (by decide) rfl rfl ⟨by rfl, by simp, trivial⟩ ?_
      simp (config := { maxSteps := 2000000 }) -implicitDefEqProofs +contextual (disch := first | assumption | omega | decide +kernel) only [push_cast, ↓capI, br2_true, br2_false, frk_tt, frk_tf, frk_f, frkD_tt, frkD_tf, frkD_f, pk2_true, pk2_false, imp_true, seval, Nat.reduceLeDiff, Nat.reduceEqDiff, reduceCtorEq, ↓reduceIte, reduceCtorEq, fmN, fm0, take_N, toN1, slN_nil, encN, slN, cfg0, get_flat_part lenN, get_flat_drop lenN, len_flat lenN, V.rn, rns, qn, setPs, rnOs, Ob.rn, List.set_cons_zero, List.size_toArray, st_M, os_M, rn_slM]
      refine callO.part0 [0] (acc_no f2) (by decide) rfl rfl ⟨by rfl, by simp, trivial⟩ ?_
      simp (config := { maxSteps := 2000000 }) -implicitDefEqProofs +contextual (disch := first | assumption | omega | decide +kernel) only [push_cast, ↓capI, br2_true, br2_false, frk_tt, frk_tf, frk_f, frkD_tt, frkD_tf, frkD_f, pk2_true, pk2_false, imp_true, seval, Nat.reduceLeDiff, Nat.reduceEqDiff, reduceCtorEq, ↓reduceIte, reduceCtorEq, fmN, fm0, take_N, toN1, slN_nil, encN, slN, cfg0, get_flat_part lenN, get_flat_drop lenN, len_flat lenN, V.rn, rns, qn, setPs, rnOs, Ob.rn, List.set_cons_zero, List.size_toArray, st_M, os_M, rn_slM]
      refine callO.part0 [0] (acc_yes h3) (by decide) rfl rfl ⟨by rfl, by simp, trivial⟩ ?_
      simp (config := { maxSteps := 2000000 }) -implicitDefEqProofs +contextual (disch := first | assumption | omega | decide +kernel) only [push_cast, ↓capI, br2_true, br2_false, frk_tt, frk_tf, frk_f, frkD_tt, frkD_tf, frkD_f, pk2_true, pk2_false, imp_true, seval, Nat.reduceLeDiff, Nat.reduceEqDiff, reduceCtorEq, ↓reduceIte, reduceCtorEq, fmN, fm0, take_N, toN1, slN_nil, encN, slN, cfg0, get_flat_part lenN, get_flat_drop lenN, len_flat lenN, V.rn, rns, qn, setPs, rnOs, Ob.rn, List.set_cons_zero, List.size_toArray, st_M, os_M, rn_slM]
      refine endG.ret ([]) (by first | rfl | simp [bel_LN, fmN, fm0, belN, bel_Ns, bel_slN, bel_slM, fzs_ok, getO, setO, fzs, fz, fzH, Nat.beq, fmN, fm0, take_N, toN1, slN_nil, tt_3, tt_4, tt_5, tt_9, tt_22, tt_42, tt_26, tt_43, tt_36, tt_63, tt_57, tt_59, tt_61, encN, slN, cfg0, get_flat_part lenN, get_flat_drop lenN, len_flat lenN, V.rn, rns, qn, setPs, rnOs, Ob.rn, List.set_cons_zero, List.size_toArray, st_M, os_M, rn_slM, op0, slM, slN, encN]) (by simp) (by simp [bel_LN, fmN, fm0, belN, bel_Ns, bel_slN, bel_slM, fzs_ok, imp, lenOK_iff, List.take_of_length_le, evRes, getT, getO, setO, fzs, fz, fzH, Nat.beq, retV, Res.then, ldT, ldR, mkV, getV, fmN, fm0, take_N, toN1, slN_nil, tt_3, tt_4, tt_5, tt_9, tt_22, tt_42, tt_26, tt_43, tt_36, tt_63, tt_57, tt_59, tt_61, encN, slN, cfg0, get_flat_part lenN, get_flat_drop lenN, len_flat lenN, V.rn, rns, qn, setPs, rnOs, Ob.rn, List.set_cons_zero, List.size_toArray, st_M, os_M, rn_slM, Tryz.f61, op0, slM, slN, encN]) (by first | rfl | simp [bel_LN, fmN, fm0, belN, bel_Ns, bel_slN, bel_slM, op0, slM, slN, encN]) (by first | rfl | simp [bel_LN, fmN, fm0, belN, bel_Ns, bel_slN, bel_slM, op0, slM, slN, encN])
    have f3 := Bool.eq_false_iff.2 h3
    rw [if_neg h3]
    by_cases h4 : begins s [40] = true
    · have hl := begins_le h4
      simp only [List.length_cons, List.length_nil] at hl
      have hd : (s.drop 1).length = s.length - 1 := List.length_drop
      obtain ⟨l, r, g, g1, g2⟩ := pgOr (by omega) (fun s hs => pgAnd (by omega) ih s hs) (s.drop 1) (by omega)
      rw [if_pos h4]
      cases hn : lstP (lstP (pNot k) 5 38) 6 124 (s.drop 1) with
      | none =>
        rw [hn] at g
        refine ⟨l, r, ?_, by omega, fun p t e => by cases e⟩
        refine GC.walk tok mixed cfg0 Tryz.func61 rfl Tryz.call61 ?_; simp (config := { maxSteps := 2000000 }) -implicitDefEqProofs +contextual (disch := first | assumption | omega | decide +kernel) only [push_cast, ↓capI, br2_true, br2_false, frk_tt, frk_tf, frk_f, frkD_tt, frkD_tf, frkD_f, pk2_true, pk2_false, imp_true, seval, Nat.reduceLeDiff, Nat.reduceEqDiff, reduceCtorEq, ↓reduceIte, reduceCtorEq, fmN, fm0, take_N, toN1, slN_nil, encN, slN, cfg0, get_flat_part lenN, get_flat_drop lenN, len_flat lenN, V.rn, rns, qn, setPs, rnOs, Ob.rn, List.set_cons_zero, List.size_toArray, st_M, os_M, rn_slM, Tryz.ntmps61]
        refine callO.part0 [0] (acc_no f1) (by decide) rfl rfl ⟨by rfl, by simp, trivial⟩ ?_
        simp (config := { maxSteps := 2000000 }) -implicitDefEqProofs +contextual (disch := first | assumption | omega | decide +kernel) only [push_cast, ↓capI, br2_true, br2_false, frk_tt, frk_tf, frk_f, frkD_tt, frkD_tf, frkD_f, pk2_true, pk2_false, imp_true, seval, Nat.reduceLeDiff, Nat.reduceEqDiff, reduceCtorEq, ↓reduceIte, reduceCtorEq, fmN, fm0, take_N, toN1, slN_nil, encN, slN, cfg0, get_flat_part lenN, get_flat_drop lenN, len_flat lenN, V.rn, rns, qn, setPs, rnOs, Ob.rn, List.set_cons_zero, List.size_toArray, st_M, os_M, rn_slM]
        refine callO.part0 [0] (acc_no f2) (by decide) rfl rfl ⟨by rfl, by simp, trivial⟩ ?_
        simp (config := { maxSteps := 2000000 }) -implicitDefEqProofs +contextual (disch := first | assumption | omega | decide +kernel) only [push_cast, ↓capI, br2_true, br2_false, frk_tt, frk_tf, frk_f, frkD_tt, frkD_tf, frkD_f, pk2_true, pk2_false, imp_true, seval, Nat.reduceLeDiff, Nat.reduceEqDiff, reduceCtorEq, ↓reduceIte, reduceCtorEq, fmN, fm0, take_N, toN1, slN_nil, encN, slN, cfg0, get_flat_part lenN, get_flat_drop lenN, len_flat lenN, V.rn, rns, qn, setPs, rnOs, Ob.rn, List.set_cons_zero, List.size_toArray, st_M, os_M, rn_slM]
        refine callO.part0 [0] (acc_no f3) (by decide) rfl rfl ⟨by rfl, by simp, trivial⟩ ?_
        simp (config := { maxSteps := 2000000 }) -implicitDefEqProofs +contextual (disch := first | assumption | omega | decide +kernel) only [push_cast, ↓capI, br2_true, br2_false, frk_tt, frk_tf, frk_f, frkD_tt, frkD_tf, frkD_f, pk2_true, pk2_false, imp_true, seval, Nat.reduceLeDiff, Nat.reduceEqDiff, reduceCtorEq, ↓reduceIte, reduceCtorEq, fmN, fm0, take_N, toN1, slN_nil, encN, slN, cfg0, get_flat_part lenN, get_flat_drop lenN, len_flat lenN, V.rn, rns, qn, setPs, rnOs, Ob.rn, List.set_cons_zero, List.size_toArray, st_M, os_M, rn_slM]
        refine callO.part0 [0] (acc_yes h4) (by decide) rfl rfl ⟨by rfl, by simp, trivial⟩ ?_
        simp (config := { maxSteps := 2000000 }) -implicitDefEqProofs +contextual (disch := first | assumption | omega | decide +kernel) only [push_cast, ↓capI, br2_true, br2_false, frk_tt, frk_tf, frk_f, frkD_tt, frkD_tf, frkD_f, pk2_true, pk2_false, imp_true, seval, Nat.reduceLeDiff, Nat.reduceEqDiff, reduceCtorEq, ↓reduceIte, reduceCtorEq, fmN, fm0, take_N, toN1, slN_nil, encN, slN, cfg0, get_flat_part lenN, get_flat_drop lenN, len_flat lenN, V.rn, rns, qn, setPs, rnOs, Ob.rn, List.set_cons_zero, List.size_toArray, st_M, os_M, rn_slM, List.length_cons, List.length_nil]
        refine callO.part0 [0] g (by decide) rfl rfl ⟨by rfl, by simp, trivial⟩ ?_
        simp (config := { maxSteps := 2000000 }) -implicitDefEqProofs +contextual (disch := first | assumption | omega | decide +kernel) only [push_cast, ↓capI, br2_true, br2_false, frk_tt, frk_tf, frk_f, frkD_tt, frkD_tf, frkD_f, pk2_true, pk2_false, imp_true, seval, Nat.reduceLeDiff, Nat.reduceEqDiff, reduceCtorEq, ↓reduceIte, reduceCtorEq, fmN, fm0, take_N, toN1, slN_nil, encN, slN, cfg0, get_flat_part lenN, get_flat_drop lenN, len_flat lenN, V.rn, rns, qn, setPs, rnOs, Ob.rn, List.set_cons_zero, List.size_toArray, st_M, os_M, rn_slM]
        refine endG.ret ([]) (by first | rfl | simp [bel_LN, fmN, fm0, belN, bel_Ns, bel_slN, bel_slM, fzs_ok, getO, setO, fzs, fz, fzH, Nat.beq, fmN, fm0, take_N, toN1, slN_nil, tt_3, tt_4, tt_5, tt_9, tt_22, tt_42, tt_26, tt_43, tt_36, tt_63, tt_57, tt_59, tt_61, encN, slN, cfg0, get_flat_part lenN, get_flat_drop lenN, len_flat lenN, V.rn, rns, qn, setPs, rnOs, Ob.rn, List.set_cons_zero, List.size_toArray, st_M, os_M, rn_slM]) (by simp) (by simp [bel_LN, fmN, fm0, belN, bel_Ns, bel_slN, bel_slM, fzs_ok, imp, lenOK_iff, List.take_of_length_le, evRes, getT, getO, setO, fzs, fz, fzH, Nat.beq, retV, Res.then, ldT, ldR, mkV, getV, fmN, fm0, take_N, toN1, slN_nil, tt_3, tt_4, tt_5, tt_9, tt_22, tt_42, tt_26, tt_43, tt_36, tt_63, tt_57, tt_59, tt_61, encN, slN, cfg0, get_flat_part lenN, get_flat_drop lenN, len_flat lenN, V.rn, rns, qn, setPs, rnOs, Ob.rn, List.set_cons_zero, List.size_toArray, st_M, os_M, rn_slM, Tryz.f61]) (by first | rfl | simp [bel_LN, fmN, fm0, belN, bel_Ns, bel_slN, bel_slM]) (by first | rfl | simp [bel_LN, fmN, fm0, belN, bel_Ns, bel_slN, bel_slM])
      | some q =>
        obtain ⟨p, u⟩ := q
        rw [hn] at g
        obtain ⟨e1, e2⟩ := g2 p u hn
        subst e1 e2
        simp only
        cases hb : begins r [41]
        · rw [if_neg (by simp)]
          refine ⟨flat p, r, ?_, by omega, fun p t e => by cases e⟩
          refine GC.walk tok mixed cfg0 Tryz.func61 rfl Tryz.call61 ?_; simp (config := { maxSteps := 2000000 }) -implicitDefEqProofs +contextual (disch := first | assumption | omega | decide +kernel) only [push_cast, ↓capI, br2_true, br2_false, frk_tt, frk_tf, frk_f, frkD_tt, frkD_tf, frkD_f, pk2_true, pk2_false, imp_true, seval, Nat.reduceLeDiff, Nat.reduceEqDiff, reduceCtorEq, ↓reduceIte, reduceCtorEq, fmN, fm0, take_N, toN1, slN_nil, encN, slN, cfg0, get_flat_part lenN, get_flat_drop lenN, len_flat lenN, V.rn, rns, qn, setPs, rnOs, Ob.rn, List.set_cons_zero, List.size_toArray, st_M, os_M, rn_slM, Tryz.ntmps61]
          refine callO.part0 [0] (acc_no f1) (by decide) rfl rfl ⟨by rfl, by simp, trivial⟩ ?_
          simp (config := { maxSteps := 2000000 }) -implicitDefEqProofs +contextual (disch := first | assumption | omega | decide +kernel) only [push_cast, ↓capI, br2_true, br2_false, frk_tt, frk_tf, frk_f, frkD_tt, frkD_tf, frkD_f, pk2_true, pk2_false, imp_true, seval, Nat.reduceLeDiff, Nat.reduceEqDiff, reduceCtorEq, ↓reduceIte, reduceCtorEq, fmN, fm0, take_N, toN1, slN_nil, encN, slN, cfg0, get_flat_part lenN, get_flat_drop lenN, len_flat lenN, V.rn, rns, qn, setPs, rnOs, Ob.rn, List.set_cons_zero, List.size_toArray, st_M, os_M, rn_slM]
          refine callO.part0 [0] (acc_no f2) (by decide) rfl rfl ⟨by rfl, by simp, trivial⟩ ?_
          simp (config := { maxSteps := 2000000 }) -implicitDefEqProofs +contextual (disch := first | assumption | omega | decide +kernel) only [push_cast, ↓capI, br2_true, br2_false, frk_tt, frk_tf, frk_f, frkD_tt, frkD_tf, frkD_f, pk2_true, pk2_false, imp_true, seval, Nat.reduceLeDiff, Nat.reduceEqDiff, reduceCtorEq, ↓reduceIte, reduceCtorEq, fmN, fm0, take_N, toN1, slN_nil, encN, slN, cfg0, get_flat_part lenN, get_flat_drop lenN, len_flat lenN, V.rn, rns, qn, setPs, rnOs, Ob.rn, List.set_cons_zero, List.size_toArray, st_M, os_M, rn_slM]
          refine callO.part0 [0] (acc_no f3) (by decide) rfl rfl ⟨by rfl, by simp, trivial⟩ ?_
          simp (config := { maxSteps := 2000000 }) -implicitDefEqProofs +contextual (disch := first | assumption | omega | decide +kernel) only [push_cast, ↓capI, br2_true, br2_false, frk_tt, frk_tf, frk_f, frkD_tt, frkD_tf, frkD_f, pk2_true, pk2_false, imp_true, seval, Nat.reduceLeDiff, Nat.reduceEqDiff, reduceCtorEq, ↓reduceIte, reduceCtorEq, fmN, fm0, take_N, toN1, slN_nil, encN, slN, cfg0, get_flat_part lenN, get_flat_drop lenN, len_flat lenN, V.rn, rns, qn, setPs, rnOs, Ob.rn, List.set_cons_zero, List.size_toArray, st_M, os_M, rn_slM]
          refine callO.part0 [0] (acc_yes h4) (by decide) rfl rfl ⟨by rfl, by simp, trivial⟩ ?_
          simp (config := { maxSteps := 2000000 }) -implicitDefEqProofs +contextual (disch := first | assumption | omega | decide +kernel) only [push_cast, ↓capI, br2_true, br2_false, frk_tt, frk_tf, frk_f, frkD_tt, frkD_tf, frkD_f, pk2_true, pk2_false, imp_true, seval, Nat.reduceLeDiff, Nat.reduceEqDiff, reduceCtorEq, ↓reduceIte, reduceCtorEq, fmN, fm0, take_N, toN1, slN_nil, encN, slN, cfg0, get_flat_part lenN, get_flat_drop lenN, len_flat lenN, V.rn, rns, qn, setPs, rnOs, Ob.rn, List.set_cons_zero, List.size_toArray, st_M, os_M, rn_slM, List.length_cons, List.length_nil]
          refine callO.part0 [0] g (by decide) rfl rfl ⟨by rfl, by simp, trivial⟩ ?_
          simp (config := { maxSteps := 2000000 }) -implicitDefEqProofs +contextual (disch := first | assumption | omega | decide +kernel) only [push_cast, ↓capI, br2_true, br2_false, frk_tt, frk_tf, frk_f, frkD_tt, frkD_tf, frkD_f, pk2_true, pk2_false, imp_true, seval, Nat.reduceLeDiff, Nat.reduceEqDiff, reduceCtorEq, ↓reduceIte, reduceCtorEq, fmN, fm0, take_N, toN1, slN_nil, encN, slN, cfg0, get_flat_part lenN, get_flat_drop lenN, len_flat lenN, V.rn, rns, qn, setPs, rnOs, Ob.rn, List.set_cons_zero, List.size_toArray, st_M, os_M, rn_slM]
          refine callO.part0 [0] (acc_no hb) (by decide) rfl rfl ⟨by rfl, by simp, trivial⟩ ?_
          simp (config := { maxSteps := 2000000 }) -implicitDefEqProofs +contextual (disch := first | assumption | omega | decide +kernel) only [push_cast, ↓capI, br2_true, br2_false, frk_tt, frk_tf, frk_f, frkD_tt, frkD_tf, frkD_f, pk2_true, pk2_false, imp_true, seval, Nat.reduceLeDiff, Nat.reduceEqDiff, reduceCtorEq, ↓reduceIte, reduceCtorEq, fmN, fm0, take_N, toN1, slN_nil, encN, slN, cfg0, get_flat_part lenN, get_flat_drop lenN, len_flat lenN, V.rn, rns, qn, setPs, rnOs, Ob.rn, List.set_cons_zero, List.size_toArray, st_M, os_M, rn_slM]
          refine endG.ret ([]) (by first | rfl | simp [bel_LN, fmN, fm0, belN, bel_Ns, bel_slN, bel_slM, fzs_ok, getO, setO, fzs, fz, fzH, Nat.beq, fmN, fm0, take_N, toN1, slN_nil, tt_3, tt_4, tt_5, tt_9, tt_22, tt_42, tt_26, tt_43, tt_36, tt_63, tt_57, tt_59, tt_61, encN, slN, cfg0, get_flat_part lenN, get_flat_drop lenN, len_flat lenN, V.rn, rns, qn, setPs, rnOs, Ob.rn, List.set_cons_zero, List.size_toArray, st_M, os_M, rn_slM]) (by simp) (by simp [bel_LN, fmN, fm0, belN, bel_Ns, bel_slN, bel_slM, fzs_ok, imp, lenOK_iff, List.take_of_length_le, evRes, getT, getO, setO, fzs, fz, fzH, Nat.beq, retV, Res.then, ldT, ldR, mkV, getV, fmN, fm0, take_N, toN1, slN_nil, tt_3, tt_4, tt_5, tt_9, tt_22, tt_42, tt_26, tt_43, tt_36, tt_63, tt_57, tt_59, tt_61, encN, slN, cfg0, get_flat_part lenN, get_flat_drop lenN, len_flat lenN, V.rn, rns, qn, setPs, rnOs, Ob.rn, List.set_cons_zero, List.size_toArray, st_M, os_M, rn_slM, Tryz.f61]) (by first | rfl | simp [bel_LN, fmN, fm0, belN, bel_Ns, bel_slN, bel_slM]) (by first | rfl | simp [bel_LN, fmN, fm0, belN, bel_Ns, bel_slN, bel_slM])
        · rw [if_pos rfl]
          refine ⟨flat p, r.drop 1, ?_, by rw [List.length_drop]; omega, fun p t e => by cases e; exact ⟨rfl, rfl⟩⟩
          refine GC.walk tok mixed cfg0 Tryz.func61 rfl Tryz.call61 ?_; simp (config := { maxSteps := 2000000 }) -implicitDefEqProofs +contextual (disch := first | assumption | omega | decide +kernel) only [push_cast, ↓capI, br2_true, br2_false, frk_tt, frk_tf, frk_f, frkD_tt, frkD_tf, frkD_f, pk2_true, pk2_false, imp_true, seval, Nat.reduceLeDiff, Nat.reduceEqDiff, reduceCtorEq, ↓reduceIte, reduceCtorEq, fmN, fm0, take_N, toN1, slN_nil, encN, slN, cfg0, get_flat_part lenN, get_flat_drop lenN, len_flat lenN, V.rn, rns, qn, setPs, rnOs, Ob.rn, List.set_cons_zero, List.size_toArray, st_M, os_M, rn_slM, Tryz.ntmps61]
          refine callO.part0 [0] (acc_no f1) (by decide) rfl rfl ⟨by rfl, by simp, trivial⟩ ?_
          simp (config := { maxSteps := 2000000 }) -implicitDefEqProofs +contextual (disch := first | assumption | omega | decide +kernel) only [push_cast, ↓capI, br2_true, br2_false, frk_tt, frk_tf, frk_f, frkD_tt, frkD_tf, frkD_f, pk2_true, pk2_false, imp_true, seval, Nat.reduceLeDiff, Nat.reduceEqDiff, reduceCtorEq, ↓reduceIte, reduceCtorEq, fmN, fm0, take_N, toN1, slN_nil, encN, slN, cfg0, get_flat_part lenN, get_flat_drop lenN, len_flat lenN, V.rn, rns, qn, setPs, rnOs, Ob.rn, List.set_cons_zero, List.size_toArray, st_M, os_M, rn_slM]
          refine callO.part0 [0] (acc_no f2) (by decide) rfl rfl ⟨by rfl, by simp, trivial⟩ ?_
          simp (config := { maxSteps := 2000000 }) -implicitDefEqProofs +contextual (disch := first | assumption | omega | decide +kernel) only [push_cast, ↓capI, br2_true, br2_false, frk_tt, frk_tf, frk_f, frkD_tt, frkD_tf, frkD_f, pk2_true, pk2_false, imp_true, seval, Nat.reduceLeDiff, Nat.reduceEqDiff, reduceCtorEq, ↓reduceIte, reduceCtorEq, fmN, fm0, take_N, toN1, slN_nil, encN, slN, cfg0, get_flat_part lenN, get_flat_drop lenN, len_flat lenN, V.rn, rns, qn, setPs, rnOs, Ob.rn, List.set_cons_zero, List.size_toArray, st_M, os_M, rn_slM]
          refine callO.part0 [0] (acc_no f3) (by decide) rfl rfl ⟨by rfl, by simp, trivial⟩ ?_
          simp (config := { maxSteps := 2000000 }) -implicitDefEqProofs +contextual (disch := first | assumption | omega | decide +kernel) only [push_cast, ↓capI, br2_true, br2_false, frk_tt, frk_tf, frk_f, frkD_tt, frkD_tf, frkD_f, pk2_true, pk2_false, imp_true, seval, Nat.reduceLeDiff, Nat.reduceEqDiff, reduceCtorEq, ↓reduceIte, reduceCtorEq, fmN, fm0, take_N, toN1, slN_nil, encN, slN, cfg0, get_flat_part lenN, get_flat_drop lenN, len_flat lenN, V.rn, rns, qn, setPs, rnOs, Ob.rn, List.set_cons_zero, List.size_toArray, st_M, os_M, rn_slM]
          refine callO.part0 [0] (acc_yes h4) (by decide) rfl rfl ⟨by rfl, by simp, trivial⟩ ?_
          simp (config := { maxSteps := 2000000 }) -implicitDefEqProofs +contextual (disch := first | assumption | omega | decide +kernel) only [push_cast, ↓capI, br2_true, br2_false, frk_tt, frk_tf, frk_f, frkD_tt, frkD_tf, frkD_f, pk2_true, pk2_false, imp_true, seval, Nat.reduceLeDiff, Nat.reduceEqDiff, reduceCtorEq, ↓reduceIte, reduceCtorEq, fmN, fm0, take_N, toN1, slN_nil, encN, slN, cfg0, get_flat_part lenN, get_flat_drop lenN, len_flat lenN, V.rn, rns, qn, setPs, rnOs, Ob.rn, List.set_cons_zero, List.size_toArray, st_M, os_M, rn_slM, List.length_cons, List.length_nil]
          refine callO.part0 [0] g (by decide) rfl rfl ⟨by rfl, by simp, trivial⟩ ?_
          simp (config := { maxSteps := 2000000 }) -implicitDefEqProofs +contextual (disch := first | assumption | omega | decide +kernel) only [push_cast, ↓capI, br2_true, br2_false, frk_tt, frk_tf, frk_f, frkD_tt, frkD_tf, frkD_f, pk2_true, pk2_false, imp_true, seval, Nat.reduceLeDiff, Nat.reduceEqDiff, reduceCtorEq, ↓reduceIte, reduceCtorEq, fmN, fm0, take_N, toN1, slN_nil, encN, slN, cfg0, get_flat_part lenN, get_flat_drop lenN, len_flat lenN, V.rn, rns, qn, setPs, rnOs, Ob.rn, List.set_cons_zero, List.size_toArray, st_M, os_M, rn_slM]
          refine callO.part0 [0] (acc_yes hb) (by decide) rfl rfl ⟨by rfl, by simp, trivial⟩ ?_
          simp (config := { maxSteps := 2000000 }) -implicitDefEqProofs +contextual (disch := first | assumption | omega | decide +kernel) only [push_cast, ↓capI, br2_true, br2_false, frk_tt, frk_tf, frk_f, frkD_tt, frkD_tf, frkD_f, pk2_true, pk2_false, imp_true, seval, Nat.reduceLeDiff, Nat.reduceEqDiff, reduceCtorEq, ↓reduceIte, reduceCtorEq, fmN, fm0, take_N, toN1, slN_nil, encN, slN, cfg0, get_flat_part lenN, get_flat_drop lenN, len_flat lenN, V.rn, rns, qn, setPs, rnOs, Ob.rn, List.set_cons_zero, List.size_toArray, st_M, os_M, rn_slM]
          refine endG.ret ([]) (by first | rfl | simp [bel_LN, fmN, fm0, belN, bel_Ns, bel_slN, bel_slM, fzs_ok, getO, setO, fzs, fz, fzH, Nat.beq, fmN, fm0, take_N, toN1, slN_nil, tt_3, tt_4, tt_5, tt_9, tt_22, tt_42, tt_26, tt_43, tt_36, tt_63, tt_57, tt_59, tt_61, encN, slN, cfg0, get_flat_part lenN, get_flat_drop lenN, len_flat lenN, V.rn, rns, qn, setPs, rnOs, Ob.rn, List.set_cons_zero, List.size_toArray, st_M, os_M, rn_slM]) (by simp) (by simp [bel_LN, fmN, fm0, belN, bel_Ns, bel_slN, bel_slM, fzs_ok, imp, lenOK_iff, List.take_of_length_le, evRes, getT, getO, setO, fzs, fz, fzH, Nat.beq, retV, Res.then, ldT, ldR, mkV, getV, fmN, fm0, take_N, toN1, slN_nil, tt_3, tt_4, tt_5, tt_9, tt_22, tt_42, tt_26, tt_43, tt_36, tt_63, tt_57, tt_59, tt_61, encN, slN, cfg0, get_flat_part lenN, get_flat_drop lenN, len_flat lenN, V.rn, rns, qn, setPs, rnOs, Ob.rn, List.set_cons_zero, List.size_toArray, st_M, os_M, rn_slM, Tryz.f61]) (by first | rfl | simp [bel_LN, fmN, fm0, belN, bel_Ns, bel_slN, bel_slM]) (by first | rfl | simp [bel_LN, fmN, fm0, belN, bel_Ns, bel_slN, bel_slM])
    rw [if_neg h4]
    exact pgFld s (by omega) ⟨f1, f2, f3, Bool.eq_false_iff.2 h4⟩
theorem pg36 (s : List UInt8) (hs : s.length ≤ 100000) : Ans 24 [] s (pOr (s.length + 1) s) :=
  pgOr (n := s.length + 1) (by omega) (fun t ht => pgAnd (n := s.length + 1) (by omega) (pg62 (s.length + 1) (by omega)) t ht) s (Nat.lt_succ_self _)
end Go.Proofs.YtllfdnbnkncnhaaGreatDoor

/- Chapter 44: Parse, by the program. -/
set_option maxRecDepth 100000
set_option maxHeartbeats 4000000
set_option linter.all false
namespace Go.Proofs.YtllfdnbnkncnhaaGreatDoor
open Go.Vm

theorem rnN {q : Nat → Nat} (l : List Nd) : rns q (l.flatMap encN) = l.flatMap encN := rns_ok (bel_Ns l)
def parQ (s : List UInt8) : PR → List Nd × Int
  | some (p, []) => if 24 < (flat p).length then ([], 12) else if tx p = s then (flat p, 0) else ([], 23)
  | _ => ([], 5)
def parP (s : List UInt8) : List Nd × Int := if 16384 < s.length then ([], 4) else parQ s (pOr (s.length + 1) s)
def encMI (r : List Nd × Int) : V := .tup [slM r.1, .int .i64 r.2]
theorem bel_MI {n : Nat} {r : List Nd × Int} : (encMI r).bel n = true := by simp [encMI, bel_tup, belAll_cons, belAll_nil, bel_slM, bel_int]
theorem flat_ne (p : Pr) : flat p ≠ [] := by
  have := flat_pos p
  intro e
  rw [e] at this
  cases this
theorem pc10 (s : List UInt8) : PC Tryz.prog 10 [.str s] (encMI (parP s)) := by
  by_cases h : 16384 < s.length
  · have e : parP s = ([], 4) := by rw [parP, if_pos h]
    rw [e]
    refine PC.walk tok mixed cfg0 Tryz.func10 rfl Tryz.call10 (by simp [bel_LN, fmN, fm0, belN, bel_Ns, bel_slN, bel_slM, bel_MI]) (by first | rfl | simp [bel_LN, fmN, fm0, belN, bel_Ns, bel_slN, bel_slM, bel_MI]) ?_; simp (config := { maxSteps := 2000000 }) -implicitDefEqProofs +contextual (disch := first | assumption | omega | decide +kernel) only [push_cast, ↓capI, br2_true, br2_false, frk_tt, frk_tf, frk_f, frkD_tt, frkD_tf, frkD_f, pk2_true, pk2_false, imp_true, seval, Nat.reduceLeDiff, Nat.reduceEqDiff, reduceCtorEq, ↓reduceIte, reduceCtorEq, fmN, fm0, take_N, toN1, slN_nil, encN, slN, cfg0, get_flat_part lenN, get_flat_drop lenN, len_flat lenN, V.rn, rns, qn, setPs, rnOs, Ob.rn, List.set_cons_zero, List.size_toArray, st_M, os_M, rn_slM, rnN, Tryz.ntmps10]
    refine endK.ret ?_ (by first | rfl | simp [bel_LN, fmN, fm0, belN, bel_Ns, bel_slN, bel_slM, bel_MI]); simp [evRes, getT, retV, Tryz.f10,  encMI, slM_nil]
  have e : parP s = parQ s (pOr (s.length + 1) s) := by rw [parP, if_neg h]
  rw [e]
  obtain ⟨l, r, g, hl, hr⟩ := pg36 s (by omega)
  have heat := pOr_eats (s.length + 1) s
  cases hx : pOr (s.length + 1) s with
  | none =>
    rw [hx] at g
    refine PC.walk tok mixed cfg0 Tryz.func10 rfl Tryz.call10 (by simp [bel_LN, fmN, fm0, belN, bel_Ns, bel_slN, bel_slM, bel_MI]) (by first | rfl | simp [bel_LN, fmN, fm0, belN, bel_Ns, bel_slN, bel_slM, bel_MI]) ?_; simp (config := { maxSteps := 2000000 }) -implicitDefEqProofs +contextual (disch := first | assumption | omega | decide +kernel) only [push_cast, ↓capI, br2_true, br2_false, frk_tt, frk_tf, frk_f, frkD_tt, frkD_tf, frkD_f, pk2_true, pk2_false, imp_true, seval, Nat.reduceLeDiff, Nat.reduceEqDiff, reduceCtorEq, ↓reduceIte, reduceCtorEq, fmN, fm0, take_N, toN1, slN_nil, encN, slN, cfg0, get_flat_part lenN, get_flat_drop lenN, len_flat lenN, V.rn, rns, qn, setPs, rnOs, Ob.rn, List.set_cons_zero, List.size_toArray, st_M, os_M, rn_slM, rnN, Tryz.ntmps10]
    refine callO.part0 [0] g (by decide) rfl rfl ⟨by rfl, by simp, trivial⟩ ?_
    simp (config := { maxSteps := 2000000 }) -implicitDefEqProofs +contextual (disch := first | assumption | omega | decide +kernel) only [push_cast, ↓capI, br2_true, br2_false, frk_tt, frk_tf, frk_f, frkD_tt, frkD_tf, frkD_f, pk2_true, pk2_false, imp_true, seval, Nat.reduceLeDiff, Nat.reduceEqDiff, reduceCtorEq, ↓reduceIte, reduceCtorEq, fmN, fm0, take_N, toN1, slN_nil, encN, slN, cfg0, get_flat_part lenN, get_flat_drop lenN, len_flat lenN, V.rn, rns, qn, setPs, rnOs, Ob.rn, List.set_cons_zero, List.size_toArray, st_M, os_M, rn_slM, rnN]
    refine endK.ret ?_ (by first | rfl | simp [bel_LN, fmN, fm0, belN, bel_Ns, bel_slN, bel_slM, bel_MI]); simp [evRes, getT, retV, Tryz.f10,  parQ, encMI, slM_nil]
  | some q =>
    obtain ⟨p, t⟩ := q
    rw [hx] at g
    obtain ⟨e1, e2⟩ := hr p t hx
    subst e1 e2
    obtain ⟨hlen, hok⟩ := heat p _ hx
    rw [slM_cons (flat_ne p)] at g
    cases r with
    | cons c u =>
      have hne : (c :: u = []) = False := eq_false (List.cons_ne_nil _ _)
      refine PC.walk tok mixed cfg0 Tryz.func10 rfl Tryz.call10 (by simp [bel_LN, fmN, fm0, belN, bel_Ns, bel_slN, bel_slM, bel_MI]) (by first | rfl | simp [bel_LN, fmN, fm0, belN, bel_Ns, bel_slN, bel_slM, bel_MI]) ?_; simp (config := { maxSteps := 2000000 }) -implicitDefEqProofs +contextual (disch := first | assumption | omega | decide +kernel) only [push_cast, ↓capI, br2_true, br2_false, frk_tt, frk_tf, frk_f, frkD_tt, frkD_tf, frkD_f, pk2_true, pk2_false, imp_true, seval, Nat.reduceLeDiff, Nat.reduceEqDiff, reduceCtorEq, ↓reduceIte, reduceCtorEq, fmN, fm0, take_N, toN1, slN_nil, encN, slN, cfg0, get_flat_part lenN, get_flat_drop lenN, len_flat lenN, V.rn, rns, qn, setPs, rnOs, Ob.rn, List.set_cons_zero, List.size_toArray, st_M, os_M, rn_slM, rnN, Tryz.ntmps10]
      refine callO.part0 [0] g (by decide) rfl rfl ⟨by rfl, by simp, trivial⟩ ?_
      simp (config := { maxSteps := 2000000 }) -implicitDefEqProofs +contextual (disch := first | assumption | omega | decide +kernel) only [push_cast, ↓capI, br2_true, br2_false, frk_tt, frk_tf, frk_f, frkD_tt, frkD_tf, frkD_f, pk2_true, pk2_false, imp_true, seval, Nat.reduceLeDiff, Nat.reduceEqDiff, reduceCtorEq, ↓reduceIte, reduceCtorEq, fmN, fm0, take_N, toN1, slN_nil, encN, slN, cfg0, get_flat_part lenN, get_flat_drop lenN, len_flat lenN, V.rn, rns, qn, setPs, rnOs, Ob.rn, List.set_cons_zero, List.size_toArray, st_M, os_M, rn_slM, rnN, hne]
      refine endK.ret ?_ (by first | rfl | simp [bel_LN, fmN, fm0, belN, bel_Ns, bel_slN, bel_slM, bel_MI]); simp [evRes, getT, retV, Tryz.f10,  parQ, encMI, slM_nil]
    | nil =>
      by_cases h24 : 24 < (flat p).length
      · refine PC.walk tok mixed cfg0 Tryz.func10 rfl Tryz.call10 (by simp [bel_LN, fmN, fm0, belN, bel_Ns, bel_slN, bel_slM, bel_MI]) (by first | rfl | simp [bel_LN, fmN, fm0, belN, bel_Ns, bel_slN, bel_slM, bel_MI]) ?_; simp (config := { maxSteps := 2000000 }) -implicitDefEqProofs +contextual (disch := first | assumption | omega | decide +kernel) only [push_cast, ↓capI, br2_true, br2_false, frk_tt, frk_tf, frk_f, frkD_tt, frkD_tf, frkD_f, pk2_true, pk2_false, imp_true, seval, Nat.reduceLeDiff, Nat.reduceEqDiff, reduceCtorEq, ↓reduceIte, reduceCtorEq, fmN, fm0, take_N, toN1, slN_nil, encN, slN, cfg0, get_flat_part lenN, get_flat_drop lenN, len_flat lenN, V.rn, rns, qn, setPs, rnOs, Ob.rn, List.set_cons_zero, List.size_toArray, st_M, os_M, rn_slM, rnN, Tryz.ntmps10]
        refine callO.part0 [0] g (by decide) rfl rfl ⟨by rfl, by simp, trivial⟩ ?_
        simp (config := { maxSteps := 2000000 }) -implicitDefEqProofs +contextual (disch := first | assumption | omega | decide +kernel) only [push_cast, ↓capI, br2_true, br2_false, frk_tt, frk_tf, frk_f, frkD_tt, frkD_tf, frkD_f, pk2_true, pk2_false, imp_true, seval, Nat.reduceLeDiff, Nat.reduceEqDiff, reduceCtorEq, ↓reduceIte, reduceCtorEq, fmN, fm0, take_N, toN1, slN_nil, encN, slN, cfg0, get_flat_part lenN, get_flat_drop lenN, len_flat lenN, V.rn, rns, qn, setPs, rnOs, Ob.rn, List.set_cons_zero, List.size_toArray, st_M, os_M, rn_slM, rnN, h24]
        refine endK.ret ?_ (by first | rfl | simp [bel_LN, fmN, fm0, belN, bel_Ns, bel_slN, bel_slM, bel_MI]); simp [evRes, getT, retV, Tryz.f10,  parQ, encMI, slM_nil, h24]
      · have i1 := pc25 p [] hok (by rw [List.append_nil]; omega)
        rw [List.append_nil, encP] at i1
        by_cases ht : tx p = s
        · refine PC.walk tok mixed cfg0 Tryz.func10 rfl Tryz.call10 (by simp [bel_LN, fmN, fm0, belN, bel_Ns, bel_slN, bel_slM, bel_MI]) (by first | rfl | simp [bel_LN, fmN, fm0, belN, bel_Ns, bel_slN, bel_slM, bel_MI]) ?_; simp (config := { maxSteps := 2000000 }) -implicitDefEqProofs +contextual (disch := first | assumption | omega | decide +kernel) only [push_cast, ↓capI, br2_true, br2_false, frk_tt, frk_tf, frk_f, frkD_tt, frkD_tf, frkD_f, pk2_true, pk2_false, imp_true, seval, Nat.reduceLeDiff, Nat.reduceEqDiff, reduceCtorEq, ↓reduceIte, reduceCtorEq, fmN, fm0, take_N, toN1, slN_nil, encN, slN, cfg0, get_flat_part lenN, get_flat_drop lenN, len_flat lenN, V.rn, rns, qn, setPs, rnOs, Ob.rn, List.set_cons_zero, List.size_toArray, st_M, os_M, rn_slM, rnN, Tryz.ntmps10]
          refine callO.part0 [0] g (by decide) rfl rfl ⟨by rfl, by simp, trivial⟩ ?_
          simp (config := { maxSteps := 2000000 }) -implicitDefEqProofs +contextual (disch := first | assumption | omega | decide +kernel) only [push_cast, ↓capI, br2_true, br2_false, frk_tt, frk_tf, frk_f, frkD_tt, frkD_tf, frkD_f, pk2_true, pk2_false, imp_true, seval, Nat.reduceLeDiff, Nat.reduceEqDiff, reduceCtorEq, ↓reduceIte, reduceCtorEq, fmN, fm0, take_N, toN1, slN_nil, encN, slN, cfg0, get_flat_part lenN, get_flat_drop lenN, len_flat lenN, V.rn, rns, qn, setPs, rnOs, Ob.rn, List.set_cons_zero, List.size_toArray, st_M, os_M, rn_slM, rnN, h24]
          refine callO.pc i1 ?_
          simp (config := { maxSteps := 2000000 }) -implicitDefEqProofs +contextual (disch := first | assumption | omega | decide +kernel) only [push_cast, ↓capI, br2_true, br2_false, frk_tt, frk_tf, frk_f, frkD_tt, frkD_tf, frkD_f, pk2_true, pk2_false, imp_true, seval, Nat.reduceLeDiff, Nat.reduceEqDiff, reduceCtorEq, ↓reduceIte, reduceCtorEq, fmN, fm0, take_N, toN1, slN_nil, encN, slN, cfg0, get_flat_part lenN, get_flat_drop lenN, len_flat lenN, V.rn, rns, qn, setPs, rnOs, Ob.rn, List.set_cons_zero, List.size_toArray, st_M, os_M, rn_slM, rnN, ht]
          refine endK.ret ?_ (by first | rfl | simp [bel_LN, fmN, fm0, belN, bel_Ns, bel_slN, bel_slM, bel_MI]); simp [evRes, getT, retV, Tryz.f10,  parQ, encMI, slM_cons (flat_ne p), h24, ht, slN]
        · refine PC.walk tok mixed cfg0 Tryz.func10 rfl Tryz.call10 (by simp [bel_LN, fmN, fm0, belN, bel_Ns, bel_slN, bel_slM, bel_MI]) (by first | rfl | simp [bel_LN, fmN, fm0, belN, bel_Ns, bel_slN, bel_slM, bel_MI]) ?_; simp (config := { maxSteps := 2000000 }) -implicitDefEqProofs +contextual (disch := first | assumption | omega | decide +kernel) only [push_cast, ↓capI, br2_true, br2_false, frk_tt, frk_tf, frk_f, frkD_tt, frkD_tf, frkD_f, pk2_true, pk2_false, imp_true, seval, Nat.reduceLeDiff, Nat.reduceEqDiff, reduceCtorEq, ↓reduceIte, reduceCtorEq, fmN, fm0, take_N, toN1, slN_nil, encN, slN, cfg0, get_flat_part lenN, get_flat_drop lenN, len_flat lenN, V.rn, rns, qn, setPs, rnOs, Ob.rn, List.set_cons_zero, List.size_toArray, st_M, os_M, rn_slM, rnN, Tryz.ntmps10]
          refine callO.part0 [0] g (by decide) rfl rfl ⟨by rfl, by simp, trivial⟩ ?_
          simp (config := { maxSteps := 2000000 }) -implicitDefEqProofs +contextual (disch := first | assumption | omega | decide +kernel) only [push_cast, ↓capI, br2_true, br2_false, frk_tt, frk_tf, frk_f, frkD_tt, frkD_tf, frkD_f, pk2_true, pk2_false, imp_true, seval, Nat.reduceLeDiff, Nat.reduceEqDiff, reduceCtorEq, ↓reduceIte, reduceCtorEq, fmN, fm0, take_N, toN1, slN_nil, encN, slN, cfg0, get_flat_part lenN, get_flat_drop lenN, len_flat lenN, V.rn, rns, qn, setPs, rnOs, Ob.rn, List.set_cons_zero, List.size_toArray, st_M, os_M, rn_slM, rnN, h24]
          refine callO.pc i1 ?_
          simp (config := { maxSteps := 2000000 }) -implicitDefEqProofs +contextual (disch := first | assumption | omega | decide +kernel) only [push_cast, ↓capI, br2_true, br2_false, frk_tt, frk_tf, frk_f, frkD_tt, frkD_tf, frkD_f, pk2_true, pk2_false, imp_true, seval, Nat.reduceLeDiff, Nat.reduceEqDiff, reduceCtorEq, ↓reduceIte, reduceCtorEq, fmN, fm0, take_N, toN1, slN_nil, encN, slN, cfg0, get_flat_part lenN, get_flat_drop lenN, len_flat lenN, V.rn, rns, qn, setPs, rnOs, Ob.rn, List.set_cons_zero, List.size_toArray, st_M, os_M, rn_slM, rnN, ht]
          refine endK.ret ?_ (by first | rfl | simp [bel_LN, fmN, fm0, belN, bel_Ns, bel_slN, bel_slM, bel_MI]); simp [evRes, getT, retV, Tryz.f10,  parQ, encMI, slM_nil, h24, ht]
end Go.Proofs.YtllfdnbnkncnhaaGreatDoor

